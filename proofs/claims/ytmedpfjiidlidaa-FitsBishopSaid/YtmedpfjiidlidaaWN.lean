import Derived.Test.YtmedpfjiidlidaaWB
import Derived.Test.YtmedpfjiidlidaaXY
import Derived.Test.YtmedpfjiidlidaaWE
import Derived.Test.YtmedpfjiidlidaaXH2
import Derived.Test.YtmedpfjiidlidaaZH
import Derived.Test.YtmedpfjiidlidaaYC
/-! What lasts is Resting of its fashions (plain laws). -/
set_option linter.unusedSimpArgs false
set_option linter.unusedVariables false
set_option maxHeartbeats 2000000
set_option maxRecDepth 10000
namespace Go.X
open Go Go.RowKit

theorem gcdL_nonneg : ∀ {l : List Int} {g : Int}, 0 ≤ g → 0 ≤ gcdL g l
  | [], g, h => h
  | x :: l, g, _ => gcdL_nonneg (l := l) (by omega)

theorem gcdL_divides : ∀ {l : List Int} {g : Int}, gcdL g l ∣ g ∧ ∀ x ∈ l, gcdL g l ∣ x
  | [], g => ⟨Int.dvd_refl _, fun x hx => by simp at hx⟩
  | x :: l, g => by
    obtain ⟨h1, h2⟩ := gcdL_divides (l := l) (g := (Int.gcd g x : Int))
    have e : gcdL g (x :: l) = gcdL (Int.gcd g x : Int) l := rfl
    rw [e]
    refine ⟨Int.dvd_trans h1 (Int.gcd_dvd_left ..), fun y hy => ?_⟩
    rcases List.mem_cons.1 hy with rfl | hy
    · exact Int.dvd_trans h1 (Int.gcd_dvd_right ..)
    · exact h2 y hy

theorem sumL_dvd {m : Int} : ∀ {l : List Int}, (∀ x ∈ l, m ∣ x) → m ∣ sumL l
  | [], _ => ⟨0, by simp [sumL]⟩
  | x :: l, h => by
    have h1 := sumL_dvd (l := l) fun y hy => h y (List.mem_cons_of_mem _ hy)
    have h2 := h x (by simp)
    simp only [sumL, List.foldr_cons] at h1 ⊢
    exact Int.dvd_add h2 h1

theorem gcd_zero_one {ys : List Int} {dy : Int} (hs : sumL ys = dy) (g : gcdL dy ys = 1) : gcdL 0 ys = 1 := by
  have h1 : gcdL 0 ys ∣ gcdL dy ys * 1 := gcdL_dvd (by
      have := sumL_dvd (m := gcdL 0 ys) (l := ys) (gcdL_divides (l := ys) (g := 0)).2
      rw [hs] at this; simpa using this) (fun x hx => by simpa using (gcdL_divides (l := ys) (g := 0)).2 x hx)
  rw [g] at h1
  have h2 : 0 ≤ gcdL 0 ys := gcdL_nonneg (by omega)
  have := Int.le_of_dvd (by omega) h1
  rcases Int.lt_or_le 0 (gcdL 0 ys) with h | h
  · omega
  · have e : gcdL 0 ys = 0 := by omega
    rw [e] at h1
    obtain ⟨k, hk⟩ := h1
    omega

theorem gcdL_scale {c : Int} : ∀ {l : List Int} {g : Int}, 0 ≤ g → gcdL (g * (c.natAbs : Int)) (l.map (· * c)) = gcdL g l * (c.natAbs : Int)
  | [], g, _ => rfl
  | x :: l, g, hg => by
    have e : (Int.gcd (g * (c.natAbs : Int)) (x * c) : Int) = (Int.gcd g x : Int) * (c.natAbs : Int) := by
      have : Int.gcd (g * (c.natAbs : Int)) (x * c) = Int.gcd g x * c.natAbs := by
        simp only [Int.gcd, Int.natAbs_mul, Int.natAbs_natCast]
        exact Nat.gcd_mul_right _ _ _
      rw [this]; simp
    show gcdL (Int.gcd (g * (c.natAbs : Int)) (x * c) : Int) (l.map (· * c)) = gcdL (Int.gcd g x : Int) l * (c.natAbs : Int)
    rw [e]
    exact gcdL_scale (by omega)

theorem sumL_scale {c : Int} : ∀ {l : List Int}, sumL (l.map (· * c)) = sumL l * c
  | [] => by simp [sumL]
  | x :: l => by
    have := sumL_scale (c := c) (l := l)
    simp only [sumL, List.map_cons, List.foldr_cons] at this ⊢
    rw [this, Int.add_mul]

theorem fair_self {set : Nat} {c : Int} (hc : c ≠ 0) : ∀ {ys : List Int} {i : Nat}, (∀ k (hk : k < ys.length), decide (ys[k] > 0) = bit set (i + k)) → fairL set c i (ys.map (· * c)) = true
  | [], i, _ => rfl
  | y :: ys, i, h => by
    have h0 := h 0 (by simp)
    have h1 := fair_self (ys := ys) (i := i + 1) hc fun k hk => by
      have := h (k + 1) (by simpa using hk)
      rw [show i + 1 + k = i + (k + 1) by omega]; simpa using this
    simp only [List.map_cons, fairL, Bool.and_eq_true, h1, and_true, Int.mul_tdiv_cancel _ hc]
    simpa using h0

/-- Numbers in the ratio of a mixture give this mixture. -/
theorem rest_of_prop {t : List (List Int)} {ys : List Int} {dy : Int} (ha : askS t [(ys, dy)] = true) (hl : (numsT t (fashS ys)).length = ys.length) (hS : sumL (numsT t (fashS ys)) ≠ 0)
    (hp : ∀ i (h1 : i < (numsT t (fashS ys)).length) (h2 : i < ys.length), (numsT t (fashS ys))[i] * dy = ys[i] * sumL (numsT t (fashS ys))) : restS t (fashS ys) = some (ys, dy) := by
  obtain ⟨hok, ly, d1, d2, hnn, hs, hg⟩ := mix_facts ha
  have hn := hok.2.1
  unfold restS
  simp only
  generalize hl' : numsT t (fashS ys) = l at *
  obtain ⟨c, hc⟩ : dy ∣ sumL l := by
    have : dy ∣ gcdL dy ys * sumL l := gcdL_dvd ⟨sumL l, rfl⟩ fun y hy => by
      obtain ⟨i, hi, rfl⟩ := List.getElem_of_mem hy
      exact ⟨l[i]'(by omega), by rw [← hp i (by omega) hi, Int.mul_comm]⟩
    rwa [hg, Int.one_mul] at this
  have hc0 : c ≠ 0 := by rintro rfl; simp at hc; exact hS hc
  have hlc : l = ys.map (· * c) := by
    refine List.ext_getElem (by simpa using hl) fun i h1 h2 => ?_
    have := hp i h1 (by omega)
    rw [hc] at this
    simp only [List.getElem_map]
    have e : ys[i]'(by omega) * (dy * c) = ys[i]'(by omega) * c * dy := by grind
    rw [e] at this
    exact Int.eq_of_mul_eq_mul_right (by omega) this
  have hgl : gcdL 0 l = (c.natAbs : Int) := by
    have := gcdL_scale (c := c) (l := ys) (g := 0) (by omega)
    rw [Int.zero_mul, gcd_zero_one hs hg, Int.one_mul] at this
    rw [hlc]; exact this
  have hd : divS l = c := by
    unfold divS
    rw [hgl, hc]
    rcases Int.lt_or_le c 0 with h | h
    · have : dy * c < 0 := Int.mul_neg_of_pos_of_neg (by omega) h
      rw [if_pos this]; omega
    · have : ¬ dy * c < 0 := by have := Int.mul_nonneg (show 0 ≤ dy by omega) h; omega
      rw [if_neg this]; omega
  have hfair : fairL (fashS ys) (divS l) 0 l = true := by
    rw [hd, hlc]
    refine fair_self hc0 fun k hk => ?_
    rw [Nat.zero_add]
    exact (bit_set (p := fun x => decide (x > 0)) (by omega) hk).symm
  rw [if_pos ⟨hS, hfair⟩, hd]
  have e1 : l.map (fun x => x.tdiv c) = ys := by
    rw [hlc, List.map_map]
    have : ((fun x => x.tdiv c) ∘ fun x : Int => x * c) = id := by funext x; simp [Int.mul_tdiv_cancel _ hc0]
    rw [this, List.map_id]
  rw [e1, hc, Int.mul_tdiv_cancel _ hc0]
end Go.X

/-! What lasts is Resting of its fashions (plain laws). -/
set_option linter.unusedSimpArgs false
set_option linter.unusedVariables false
set_option maxHeartbeats 2000000
set_option maxRecDepth 10000
namespace Go.X
open Go Go.RowKit

/-- The form along the way to a fashion alone. -/
theorem ess_unit {t : List (List Int)} {ys : List Int} {dy : Int} (ha : askS t [(ys, dy)] = true) (hL : lastsP t ys = true) {i : Nat} (hi : i < t.length) (hpos : ys.getD i 0 > 0) (hne : ys ≠ unit t.length i) :
    gainS t (diffL ys (unit t.length i) dy 1) (diffL ys (unit t.length i) dy 1) < 0 := by
  obtain ⟨hok, ly, d1, d2, hnn, hs, hg⟩ := mix_facts ha
  have hn := hok.2.1
  refine ess ha (ask_alone hok hi) hL ?_ (fun h => hne h.2)
  have hb8 : bestS t ys < 8 := Nat.lt_of_lt_of_le bestS_lt (Nat.pow_le_pow_right (by decide) hn (n := 2))
  rw [unit_fash hn hi]
  refine sub_one hb8 (by omega) ?_
  have h1 := lasts_rest hL
  have ho : fashS ys < 8 := Nat.lt_of_lt_of_le (fashS_lt ly) (Nat.pow_le_pow_right (by decide) hn (n := 2))
  refine (sub_bits ho hb8).1 h1 i (by omega) ?_
  have hi2 : i < ys.length := by omega
  have := bit_set (p := fun x => decide (x > 0)) (l := ys) (by omega) hi2
  rw [List.getD_eq_getElem?_getD, List.getElem?_eq_getElem hi2, Option.getD_some] at hpos
  show bit (setS (fun x => decide (x > 0)) ys 0) i = true
  rw [this]; simpa using hpos

theorem sq_form {A x : Int} (h : A * (x * x) < 0) : A < 0 := by
  rcases Int.lt_or_le A 0 with h1 | h1
  · exact h1
  · have := Int.mul_nonneg h1 (sq_nonneg x); omega

theorem rest_of_lasts1 {a y dy : Int} (ha : askS [[a]] [([y], dy)] = true) : restS [[a]] (fashS [y]) = some ([y], dy) := by
  obtain ⟨hok, ly, d1, d2, hnn, hs, hg⟩ := mix_facts ha
  simp only [sumL, List.foldr_cons, List.foldr_nil, Int.add_zero] at hs
  subst hs
  have hf : fashS [y] = 1 := by simp only [fashS, setS, show decide (y > 0) = true by simp; omega]; rfl
  have e : numsT [[a]] 1 = [1] := by kernel_rfl
  have hp := rest_of_prop ha
  rw [hf, e] at hp
  rw [hf]
  refine hp rfl (by decide) fun i h1 h2 => ?_
  simp only [List.length_cons, List.length_nil] at h1
  obtain rfl : i = 0 := by omega
  simp [sumL]

theorem fash_two {x y : Int} : fashS [x, y] = (if x > 0 then 1 else 0) + (if y > 0 then 2 else 0) := by
  by_cases h1 : x > 0 <;> by_cases h2 : y > 0 <;> simp [fashS, setS, h1, h2]

theorem rest_of_lasts2 {a b c d x y dy : Int} (ha : askS [[a, b], [c, d]] [([x, y], dy)] = true) (hL : lastsP [[a, b], [c, d]] [x, y] = true) : restS [[a, b], [c, d]] (fashS [x, y]) = some ([x, y], dy) := by
  obtain ⟨hok, ly, d1, d2, hnn, hs, hg⟩ := mix_facts ha
  have hx := hnn x (by simp)
  have hy := hnn y (by simp)
  have hr := (rest_iff hok ly hnn).1 (lasts_rest hL)
  have r0 := hr 0 (by simp) (by simp [gains])
  have r1 := hr 1 (by simp) (by simp [gains])
  simp only [gains, List.map_cons, List.map_nil, dotS, List.getElem_cons_zero, List.getElem_cons_succ, Int.add_zero] at r0 r1
  generalize maxI [a * x + b * y, c * x + d * y] = M at r0 r1
  simp only [sumL, List.foldr_cons, List.foldr_nil, Int.add_zero] at hs
  have hp := rest_of_prop ha
  rw [fash_two] at hp ⊢
  by_cases h1 : x > 0
  · by_cases h2 : y > 0
    · have e : numsT [[a, b], [c, d]] 3 = [b - d, c - a] := nums_two
      simp only [h1, h2, if_true, Nat.reduceAdd, e] at hp ⊢
      have q0 : a * x + b * y = M := r0.resolve_left (by omega)
      have q1 : c * x + d * y = M := r1.resolve_left (by omega)
      have hne : [x, y] ≠ unit [[a, b], [c, d]].length 0 := by
        intro h
        have h3 := congrArg (fun l => l.getD 1 0) h
        have h4 : y = 0 := h3
        omega
      have hu := ess_unit ha hL (i := 0) (by simp) (by simpa using h1) hne
      have hf : gainS [[a, b], [c, d]] (diffL [x, y] (unit 2 0) dy 1) (diffL [x, y] (unit 2 0) dy 1) = (a - b - c + d) * (y * y) := by
        rw [← hs]
        simp only [diffL, unit, List.replicate, List.set_cons_zero, List.zipWith_cons_cons, List.zipWith_nil_left, gainS, dotX]; grind
      have hu' : gainS [[a, b], [c, d]] (diffL [x, y] (unit 2 0) dy 1) (diffL [x, y] (unit 2 0) dy 1) < 0 := hu
      rw [hf] at hu'
      have hneg := sq_form hu'
      refine hp rfl (by simp only [sumL, List.foldr_cons, List.foldr_nil]; omega) fun i i1 i2 => ?_
      simp only [List.length_cons, List.length_nil] at i1
      have heq : (b - d) * y = (c - a) * x := by grind
      rcases (show i = 0 ∨ i = 1 by omega) with rfl | rfl
      · simp only [List.getElem_cons_zero, sumL, List.foldr_cons, List.foldr_nil, Int.add_zero]
        rw [← hs]; grind
      · simp only [List.getElem_cons_zero, List.getElem_cons_succ, sumL, List.foldr_cons, List.foldr_nil, Int.add_zero]
        rw [← hs]; grind
    · obtain rfl : y = 0 := by omega
      have e : numsT [[a, b], [c, d]] 1 = [1, 0] := by kernel_rfl
      simp only [h1, h2, if_true, if_false, Nat.reduceAdd, e] at hp ⊢
      refine hp rfl (by decide) fun i i1 i2 => ?_
      simp only [List.length_cons, List.length_nil] at i1
      rcases (show i = 0 ∨ i = 1 by omega) with rfl | rfl
      · simp [sumL]; omega
      · simp [sumL]
  · obtain rfl : x = 0 := by omega
    have h2 : y > 0 := by omega
    have e : numsT [[a, b], [c, d]] 2 = [0, 1] := by kernel_rfl
    simp only [h1, h2, if_true, if_false, Nat.reduceAdd, e] at hp ⊢
    refine hp rfl (by decide) fun i i1 i2 => ?_
    simp only [List.length_cons, List.length_nil] at i1
    rcases (show i = 0 ∨ i = 1 by omega) with rfl | rfl
    · simp [sumL]
    · simp [sumL]; omega
end Go.X

/-! What lasts is Resting of its fashions: three fashions (plain laws). -/
set_option linter.unusedSimpArgs false
set_option linter.unusedVariables false
set_option maxHeartbeats 4000000
set_option maxRecDepth 10000
namespace Go.X
open Go Go.RowKit

theorem way012 {a b c d e f g h i : Int} (hlast : true = tailP [[a, b, c], [d, e, f], [g, h, i]] 7 0 [1, 2]) {z0 z1 z2 : Int} (hz : z0 + z1 + z2 = 0) (hne : z1 ≠ 0 ∨ z2 ≠ 0)
    (hu : (a - d) * z0 + (b - e) * z1 + (c - f) * z2 = 0) (hv : (a - g) * z0 + (b - h) * z1 + (c - i) * z2 = 0) : False := by
  have e1 : wayS [[a, b, c], [d, e, f], [g, h, i]] 0 1 1 = (e - d - b + a) + (e - d - b + a) := rfl
  have e2 : wayS [[a, b, c], [d, e, f], [g, h, i]] 0 1 2 = (f - d - c + a) + (h - g - b + a) := rfl
  have e3 : wayS [[a, b, c], [d, e, f], [g, h, i]] 0 2 2 = (i - g - c + a) + (i - g - c + a) := rfl
  simp only [tailP] at hlast
  rw [e1, e2, e3] at hlast
  split at hlast
  · cases hlast
  · rename_i hn
    have hal : aloneS 7 = false := by decide
    rw [hal, Bool.false_and, Bool.false_or] at hlast
    have hform := form_neg2 (by omega) (by omega) (of_decide_eq_true hlast.symm) hne
    have : z0 = -z1 - z2 := by omega
    subst this
    have : (e - d - b + a + (e - d - b + a)) * (z1 * z1) + 2 * ((f - d - c + a + (h - g - b + a)) * (z1 * z2)) + (i - g - c + a + (i - g - c + a)) * (z2 * z2) = 0 := by grind
    omega

theorem fash_three {x y z : Int} : fashS [x, y, z] = (if x > 0 then 1 else 0) + ((if y > 0 then 2 else 0) + (if z > 0 then 4 else 0)) := by
  by_cases h1 : x > 0 <;> by_cases h2 : y > 0 <;> by_cases h3 : z > 0 <;> simp [fashS, setS, h1, h2, h3]

theorem rest_of_lasts3 {a b c d e f g h i x y z dy : Int} (ha : askS [[a, b, c], [d, e, f], [g, h, i]] [([x, y, z], dy)] = true) (hL : lastsP [[a, b, c], [d, e, f], [g, h, i]] [x, y, z] = true) :
    restS [[a, b, c], [d, e, f], [g, h, i]] (fashS [x, y, z]) = some ([x, y, z], dy) := by
  obtain ⟨hok, ly, d1, d2, hnn, hs, hg⟩ := mix_facts ha
  have hx := hnn x (by simp)
  have hy := hnn y (by simp)
  have hz := hnn z (by simp)
  have hr := (rest_iff hok ly hnn).1 (lasts_rest hL)
  have r0 := hr 0 (by simp) (by simp [gains])
  have r1 := hr 1 (by simp) (by simp [gains])
  have r2 := hr 2 (by simp) (by simp [gains])
  simp only [gains, List.map_cons, List.map_nil, dotS, List.getElem_cons_zero, List.getElem_cons_succ, Int.add_zero] at r0 r1 r2
  generalize maxI [a * x + (b * y + c * z), d * x + (e * y + f * z), g * x + (h * y + i * z)] = M at r0 r1 r2
  simp only [sumL, List.foldr_cons, List.foldr_nil, Int.add_zero] at hs
  have hp := rest_of_prop ha
  have hu := fun (k : Nat) (hk : k < 3) (hpos : [x, y, z].getD k 0 > 0) (hne : [x, y, z] ≠ unit 3 k) => ess_unit ha hL (i := k) hk hpos hne
  have hlast := fun b' (hB : bestS [[a, b, c], [d, e, f], [g, h, i]] [x, y, z] = b') => lasts_at3 (t := [[a, b, c], [d, e, f], [g, h, i]]) (ys := [x, y, z]) rfl rfl hB
  rw [fash_three] at hp hlast ⊢
  have n1 : numsT [[a, b, c], [d, e, f], [g, h, i]] 1 = [1, 0, 0] := by kernel_rfl
  have n2 : numsT [[a, b, c], [d, e, f], [g, h, i]] 2 = [0, 1, 0] := by kernel_rfl
  have n4 : numsT [[a, b, c], [d, e, f], [g, h, i]] 4 = [0, 0, 1] := by kernel_rfl
  have n3 : numsT [[a, b, c], [d, e, f], [g, h, i]] 3 = [b - e, d - a, 0] := by kernel_rfl
  have n5 : numsT [[a, b, c], [d, e, f], [g, h, i]] 5 = [c - i, 0, g - a] := by kernel_rfl
  have n6 : numsT [[a, b, c], [d, e, f], [g, h, i]] 6 = [0, f - i, h - e] := by kernel_rfl
  have n7 : numsT [[a, b, c], [d, e, f], [g, h, i]] 7 = [(b - e) * (c - i) - (c - f) * (b - h), (c - f) * (a - g) - (a - d) * (c - i), (a - d) * (b - h) - (b - e) * (a - g)] := by kernel_rfl
  have three : ∀ k : Nat, k < 3 → k = 0 ∨ k = 1 ∨ k = 2 := by omega
  by_cases h1 : x > 0
  · by_cases h2 : y > 0
    · by_cases h3 : z > 0
      · -- all three
        simp only [h1, h2, h3, if_true, Nat.reduceAdd, n7] at hp hlast ⊢
        have q0 : a * x + (b * y + c * z) = M := r0.resolve_left (by omega)
        have q1 : d * x + (e * y + f * z) = M := r1.resolve_left (by omega)
        have q2 : g * x + (h * y + i * z) = M := r2.resolve_left (by omega)
        have hu1 : (a - d) * x + (b - e) * y + (c - f) * z = 0 := by grind
        have hv1 : (a - g) * x + (b - h) * y + (c - i) * z = 0 := by grind
        have hb8 : bestS [[a, b, c], [d, e, f], [g, h, i]] [x, y, z] < 8 := bestS_lt (t := [[a, b, c], [d, e, f], [g, h, i]])
        have hl := hlast _ rfl
        rw [hL] at hl
        generalize bestS [[a, b, c], [d, e, f], [g, h, i]] [x, y, z] = b' at hl hb8
        have hl7 : true = tailP [[a, b, c], [d, e, f], [g, h, i]] 7 0 [1, 2] := by
          rcases (show b' = 0 ∨ b' = 1 ∨ b' = 2 ∨ b' = 3 ∨ b' = 4 ∨ b' = 5 ∨ b' = 6 ∨ b' = 7 by omega) with rfl | rfl | rfl | rfl | rfl | rfl | rfl | rfl
          · exact absurd hl (by simp [show subS 7 0 = false from rfl])
          · exact absurd hl (by simp [show subS 7 1 = false from rfl])
          · exact absurd hl (by simp [show subS 7 2 = false from rfl])
          · exact absurd hl (by simp [show subS 7 3 = false from rfl])
          · exact absurd hl (by simp [show subS 7 4 = false from rfl])
          · exact absurd hl (by simp [show subS 7 5 = false from rfl])
          · exact absurd hl (by simp [show subS 7 6 = false from rfl])
          · exact hl
        have w := fun z0 z1 z2 => way012 hl7 (z0 := z0) (z1 := z1) (z2 := z2)
        clear hlast hl hl7 hr r0 r1 r2 hu ha hL hok hnn hg
        generalize hA : a - d = A at *
        generalize hB : b - e = B at *
        generalize hC : c - f = C at *
        generalize hD : a - g = D at *
        generalize hE : b - h = E at *
        generalize hF : c - i = F at *
        refine hp rfl (fun hS => ?_) fun k i1 i2 => ?_
        · simp only [sumL, List.foldr_cons, List.foldr_nil, Int.add_zero] at hS
          -- along u and across
          have c1 : ¬ (C - A ≠ 0 ∨ A - B ≠ 0) := fun hne => w (B - C) (C - A) (A - B) (by omega) hne (by grind) (by grind)
          have c2 : ¬ (F - D ≠ 0 ∨ D - E ≠ 0) := fun hne => w (E - F) (F - D) (D - E) (by omega) hne (by grind) (by grind)
          obtain rfl : C = A := by omega
          obtain rfl : B = C := by omega
          obtain rfl : F = D := by omega
          obtain rfl : E = F := by omega
          have z1 : B * dy = 0 := by rw [← hs]; grind
          have z2 : E * dy = 0 := by rw [← hs]; grind
          have y1 : B = 0 := (Int.mul_eq_zero.1 z1).resolve_right (by omega)
          have y2 : E = 0 := (Int.mul_eq_zero.1 z2).resolve_right (by omega)
          exact w 0 1 (-1) (by omega) (by omega) (by rw [y1]; omega) (by rw [y2]; omega)
        · simp only [List.length_cons, List.length_nil] at i1
          rcases three k i1 with rfl | rfl | rfl
          · simp only [List.getElem_cons_zero, List.getElem_cons_succ, sumL, List.foldr_cons, List.foldr_nil, Int.add_zero]
            rw [← hs]; grind
          · simp only [List.getElem_cons_zero, List.getElem_cons_succ, sumL, List.foldr_cons, List.foldr_nil, Int.add_zero]
            rw [← hs]; grind
          · simp only [List.getElem_cons_zero, List.getElem_cons_succ, sumL, List.foldr_cons, List.foldr_nil, Int.add_zero]
            rw [← hs]; grind
      · obtain rfl : z = 0 := by omega
        simp only [h1, h2, h3, if_true, if_false, Nat.reduceAdd, n3] at hp ⊢
        have q0 : a * x + (b * y + c * 0) = M := r0.resolve_left (by omega)
        have q1 : d * x + (e * y + f * 0) = M := r1.resolve_left (by omega)
        have hu' : gainS [[a, b, c], [d, e, f], [g, h, i]] (diffL [x, y, 0] (unit 3 0) dy 1) (diffL [x, y, 0] (unit 3 0) dy 1) < 0 := hu 0 (by omega) (by simpa using h1) (fun h => by have h4 : y = 0 := congrArg (fun l => l.getD 1 0) h; omega)
        have hf : gainS [[a, b, c], [d, e, f], [g, h, i]] (diffL [x, y, 0] (unit 3 0) dy 1) (diffL [x, y, 0] (unit 3 0) dy 1) = (a - b - d + e) * (y * y) := by
          rw [← hs]
          simp only [diffL, unit, List.replicate, List.set_cons_zero, List.zipWith_cons_cons, List.zipWith_nil_left, gainS, dotX]; grind
        rw [hf] at hu'
        have hneg := sq_form hu'
        refine hp rfl (by simp only [sumL, List.foldr_cons, List.foldr_nil]; omega) fun k i1 i2 => ?_
        simp only [List.length_cons, List.length_nil] at i1
        rcases three k i1 with rfl | rfl | rfl <;> simp only [List.getElem_cons_zero, List.getElem_cons_succ, sumL, List.foldr_cons, List.foldr_nil, Int.add_zero] <;> rw [← hs] <;> grind
    · obtain rfl : y = 0 := by omega
      by_cases h3 : z > 0
      · simp only [h1, h2, h3, if_true, if_false, Nat.reduceAdd, n5] at hp ⊢
        have q0 : a * x + (b * 0 + c * z) = M := r0.resolve_left (by omega)
        have q2 : g * x + (h * 0 + i * z) = M := r2.resolve_left (by omega)
        have hu' : gainS [[a, b, c], [d, e, f], [g, h, i]] (diffL [x, 0, z] (unit 3 0) dy 1) (diffL [x, 0, z] (unit 3 0) dy 1) < 0 := hu 0 (by omega) (by simpa using h1) (fun h => by have h4 : z = 0 := congrArg (fun l => l.getD 2 0) h; omega)
        have hf : gainS [[a, b, c], [d, e, f], [g, h, i]] (diffL [x, 0, z] (unit 3 0) dy 1) (diffL [x, 0, z] (unit 3 0) dy 1) = (a - c - g + i) * (z * z) := by
          rw [← hs]
          simp only [diffL, unit, List.replicate, List.set_cons_zero, List.zipWith_cons_cons, List.zipWith_nil_left, gainS, dotX]; grind
        rw [hf] at hu'
        have hneg := sq_form hu'
        refine hp rfl (by simp only [sumL, List.foldr_cons, List.foldr_nil]; omega) fun k i1 i2 => ?_
        simp only [List.length_cons, List.length_nil] at i1
        rcases three k i1 with rfl | rfl | rfl <;> simp only [List.getElem_cons_zero, List.getElem_cons_succ, sumL, List.foldr_cons, List.foldr_nil, Int.add_zero] <;> rw [← hs] <;> grind
      · obtain rfl : z = 0 := by omega
        simp only [h1, h2, h3, if_true, if_false, Nat.reduceAdd, n1] at hp ⊢
        refine hp rfl (by decide) fun k i1 i2 => ?_
        simp only [List.length_cons, List.length_nil] at i1
        rcases three k i1 with rfl | rfl | rfl <;> simp [sumL] <;> omega
  · obtain rfl : x = 0 := by omega
    by_cases h2 : y > 0
    · by_cases h3 : z > 0
      · simp only [h1, h2, h3, if_true, if_false, Nat.reduceAdd, n6] at hp ⊢
        have q1 : d * 0 + (e * y + f * z) = M := r1.resolve_left (by omega)
        have q2 : g * 0 + (h * y + i * z) = M := r2.resolve_left (by omega)
        have hu' : gainS [[a, b, c], [d, e, f], [g, h, i]] (diffL [0, y, z] (unit 3 1) dy 1) (diffL [0, y, z] (unit 3 1) dy 1) < 0 := hu 1 (by omega) (by simpa using h2) (fun h => by have h4 : z = 0 := congrArg (fun l => l.getD 2 0) h; omega)
        have hf : gainS [[a, b, c], [d, e, f], [g, h, i]] (diffL [0, y, z] (unit 3 1) dy 1) (diffL [0, y, z] (unit 3 1) dy 1) = (e - f - h + i) * (z * z) := by
          rw [← hs]
          simp only [diffL, unit, List.replicate, List.set_cons_zero, List.set_cons_succ, List.zipWith_cons_cons, List.zipWith_nil_left, gainS, dotX]; grind
        rw [hf] at hu'
        have hneg := sq_form hu'
        refine hp rfl (by simp only [sumL, List.foldr_cons, List.foldr_nil]; omega) fun k i1 i2 => ?_
        simp only [List.length_cons, List.length_nil] at i1
        rcases three k i1 with rfl | rfl | rfl <;> simp only [List.getElem_cons_zero, List.getElem_cons_succ, sumL, List.foldr_cons, List.foldr_nil, Int.add_zero] <;> rw [← hs] <;> grind
      · obtain rfl : z = 0 := by omega
        simp only [h1, h2, h3, if_true, if_false, Nat.reduceAdd, n2] at hp ⊢
        refine hp rfl (by decide) fun k i1 i2 => ?_
        simp only [List.length_cons, List.length_nil] at i1
        rcases three k i1 with rfl | rfl | rfl <;> simp [sumL] <;> omega
    · obtain rfl : y = 0 := by omega
      have h3 : z > 0 := by omega
      simp only [h1, h2, h3, if_true, if_false, Nat.reduceAdd, n4] at hp ⊢
      refine hp rfl (by decide) fun k i1 i2 => ?_
      simp only [List.length_cons, List.length_nil] at i1
      rcases three k i1 with rfl | rfl | rfl <;> simp [sumL] <;> omega

/-- What lasts is Resting of its fashions. -/
theorem rest_of_lasts {t : List (List Int)} {ys : List Int} {dy : Int} (ha : askS t [(ys, dy)] = true) (hL : lastsP t ys = true) : restS t (fashS ys) = some (ys, dy) := by
  obtain ⟨hok, ly, -⟩ := mix_facts ha
  rcases shapes hok with ⟨a, rfl⟩ | ⟨a, b', c, d, rfl⟩ | ⟨a, b', c, d, e, f, g, h, i, rfl⟩
  · match ys, ly with
    | [y], _ => exact rest_of_lasts1 ha
  · match ys, ly with
    | [x, y], _ => exact rest_of_lasts2 ha hL
  · match ys, ly with
    | [x, y, z], _ => exact rest_of_lasts3 ha hL
end Go.X

/-! What lasts: the plain law of Bishop. -/
set_option linter.unusedSimpArgs false
set_option linter.unusedVariables false
set_option maxHeartbeats 4000000
set_option maxRecDepth 10000
namespace Go.X
open Go Go.RowKit

/-- No other mixture at rest has only fashions that are in Best of what lasts. -/
theorem only_rest {t : List (List Int)} {xs ys : List Int} {dx dy : Int} (ax : askS t [(xs, dx)] = true) (ay : askS t [(ys, dy)] = true) (hL : lastsP t xs = true) (hr : subS (fashS ys) (bestS t ys) = true)
    (hs : subS (fashS ys) (bestS t xs) = true) : dx = dy ∧ xs = ys := by
  refine Classical.byContradiction fun hne => ?_
  obtain ⟨hok, lx, dx1, dx2, nx, sx, gx⟩ := mix_facts ax
  obtain ⟨_, ly, dy1, dy2, ny, sy, gy⟩ := mix_facts ay
  have m1 : mixS t.length xs dx = true := (ask1 ax).2
  have m2 : mixS t.length ys dy = true := (ask1 ay).2
  have axy : askS t [(xs, dx), (ys, dy)] = true := by simp [askS, hok, m1, m2]
  have ayx : askS t [(ys, dy), (xs, dx)] = true := by simp [askS, hok, m1, m2]
  have p1 := rest_p axy (lasts_rest hL)
  have p2 := rest_p ayx hr
  have h1 := ess ax ay hL hs hne
  rw [pq_form hok lx ly] at h1
  have e : pS t (ys, dy) (xs, dx) = - qS t (xs, dx) (ys, dy) := by
    unfold pS qS; simp only; grind
  omega

theorem sum_bound {t : List (List Int)} {set : Nat} (hok : okTab t) (h0 : 0 < set) (hs : set < 2 ^ t.length) : -10000 ≤ sumL (numsT t set) ∧ sumL (numsT t set) ≤ 10000 := by
  have hT := hok.tame
  rcases shapes hok with ⟨a, rfl⟩ | ⟨a, b, c, d, rfl⟩ | ⟨a, b, c, d, e, f, g, h, i, rfl⟩
  · have hs : set < 2 := hs
    obtain rfl : set = 1 := by omega
    have nE : numsT [[a]] 1 = [1] := by kernel_rfl
    rw [nE]; decide
  · have hs : set < 4 := hs
    have b1 := hT [a, b] (by simp) a (by simp)
    have b2 := hT [a, b] (by simp) b (by simp)
    have b3 := hT [c, d] (by simp) c (by simp)
    have b4 := hT [c, d] (by simp) d (by simp)
    rcases (show set = 1 ∨ set = 2 ∨ set = 3 by omega) with rfl | rfl | rfl
    · have nE : numsT [[a, b], [c, d]] 1 = [1, 0] := by kernel_rfl
      rw [nE]; decide
    · have nE : numsT [[a, b], [c, d]] 2 = [0, 1] := by kernel_rfl
      rw [nE]; decide
    · have nE : numsT [[a, b], [c, d]] 3 = [b - d, c - a] := by kernel_rfl
      rw [nE]; simp only [sumL, List.foldr_cons, List.foldr_nil]; omega
  · have hs : set < 8 := hs
    have b1 := hT [a, b, c] (by simp) a (by simp)
    have b2 := hT [a, b, c] (by simp) b (by simp)
    have b3 := hT [a, b, c] (by simp) c (by simp)
    have b4 := hT [d, e, f] (by simp) d (by simp)
    have b5 := hT [d, e, f] (by simp) e (by simp)
    have b6 := hT [d, e, f] (by simp) f (by simp)
    have b7 := hT [g, h, i] (by simp) g (by simp)
    have b8 := hT [g, h, i] (by simp) h (by simp)
    have b9 := hT [g, h, i] (by simp) i (by simp)
    rcases (show set = 1 ∨ set = 2 ∨ set = 3 ∨ set = 4 ∨ set = 5 ∨ set = 6 ∨ set = 7 by omega) with rfl | rfl | rfl | rfl | rfl | rfl | rfl
    · have nE : numsT [[a, b, c], [d, e, f], [g, h, i]] 1 = [1, 0, 0] := by kernel_rfl
      rw [nE]; decide
    · have nE : numsT [[a, b, c], [d, e, f], [g, h, i]] 2 = [0, 1, 0] := by kernel_rfl
      rw [nE]; decide
    · have nE : numsT [[a, b, c], [d, e, f], [g, h, i]] 3 = [b - e, d - a, 0] := by kernel_rfl
      rw [nE]; simp only [sumL, List.foldr_cons, List.foldr_nil]; omega
    · have nE : numsT [[a, b, c], [d, e, f], [g, h, i]] 4 = [0, 0, 1] := by kernel_rfl
      rw [nE]; decide
    · have nE : numsT [[a, b, c], [d, e, f], [g, h, i]] 5 = [c - i, 0, g - a] := by kernel_rfl
      rw [nE]; simp only [sumL, List.foldr_cons, List.foldr_nil]; omega
    · have nE : numsT [[a, b, c], [d, e, f], [g, h, i]] 6 = [0, f - i, h - e] := by kernel_rfl
      rw [nE]; simp only [sumL, List.foldr_cons, List.foldr_nil]; omega
    · have nE : numsT [[a, b, c], [d, e, f], [g, h, i]] 7 = [(b - e) * (c - i) - (c - f) * (b - h), (c - f) * (a - g) - (a - d) * (c - i), (a - d) * (b - h) - (b - e) * (a - g)] := by kernel_rfl
      rw [nE]
      have p0 := mulB (A := 40) (B := 40) (a := b - e) (b := c - i) (by omega) (by omega)
      have q0 := mulB (A := 40) (B := 40) (a := c - f) (b := b - h) (by omega) (by omega)
      have p1 := mulB (A := 40) (B := 40) (a := c - f) (b := a - g) (by omega) (by omega)
      have q1 := mulB (A := 40) (B := 40) (a := a - d) (b := c - i) (by omega) (by omega)
      have p2 := mulB (A := 40) (B := 40) (a := a - d) (b := b - h) (by omega) (by omega)
      have q2 := mulB (A := 40) (B := 40) (a := b - e) (b := a - g) (by omega) (by omega)
      simp only [sumL, List.foldr_cons, List.foldr_nil]; omega

theorem sum_pos_all {l : List Int} (h : ∀ x ∈ l, 0 ≤ x) : 0 ≤ sumL l ∧ ∀ x ∈ l, x ≤ sumL l := by
  induction l with
  | nil => simp [sumL]
  | cons y l ih =>
    obtain ⟨h1, h2⟩ := ih fun x hx => h x (List.mem_cons_of_mem _ hx)
    have h3 := h y (by simp)
    have e : sumL (y :: l) = y + sumL l := rfl
    rw [e]
    refine ⟨by omega, fun x hx => ?_⟩
    rcases List.mem_cons.1 hx with rfl | hx
    · omega
    · have := h2 x hx; omega

theorem min_nonneg : ∀ {l : List Int}, minI l ≥ 0 → ∀ x ∈ l, 0 ≤ x := by
  intro l h x hx
  match l, hx with
  | y :: l, hx =>
    have key : ∀ (l : List Int) (a : Int), 0 ≤ l.foldl min a → 0 ≤ a ∧ ∀ x ∈ l, 0 ≤ x := by
      intro l
      induction l with
      | nil => intro a h; exact ⟨h, fun x hx => by simp at hx⟩
      | cons z l ih =>
        intro a h
        obtain ⟨h1, h2⟩ := ih (min a z) h
        refine ⟨by omega, fun x hx => ?_⟩
        rcases List.mem_cons.1 hx with rfl | hx
        · omega
        · exact h2 x hx
    obtain ⟨h1, h2⟩ := key l y h
    rcases List.mem_cons.1 hx with rfl | hx
    · exact h1
    · exact h2 x hx

/-- What Resting returns is a mixture. -/
theorem rest_mix {t : List (List Int)} {set : Nat} {x : List Int} {d : Int} (hok : okTab t) (h0 : 0 < set) (hs : set < 2 ^ t.length) (h : restS t set = some (x, d)) : mixS t.length x d = true := by
  obtain ⟨n1, n2, n3⟩ := nums_ok hok h0 hs
  have hB := sum_bound hok h0 hs
  unfold restS at h
  simp only at h
  split at h
  · rename_i hc
    obtain ⟨rfl, rfl⟩ : _ ∧ _ := by simpa using h
    have hf := flag (divS (numsT t set)) (by rw [n1]; exact ⟨hok.1, hok.2.1⟩) h0 (by rw [n1]; exact hs) n3
    rw [hc.2] at hf
    simp only [Bool.and_eq_true, beq_iff_eq, decide_eq_true_eq] at hf
    have hnn := min_nonneg hf.1
    generalize numsT t set = l at *
    have hS := hc.1
    have hg := gcdL_nonneg (l := l) (g := 0) (by omega)
    have hdv := gcdL_divides (l := l) (g := 0)
    obtain ⟨k, hk⟩ := sumL_dvd (m := gcdL 0 l) (l := l) hdv.2
    have hG : gcdL 0 l ≠ 0 := fun h => by rw [h] at hk; simp at hk; exact hS hk
    have hcs : ∃ c, divS l = c ∧ c ≠ 0 ∧ (c.natAbs : Int) = gcdL 0 l ∧ (sumL l < 0 → c < 0) ∧ (¬ sumL l < 0 → 0 < c) := by
      refine ⟨_, rfl, ?_⟩
      unfold divS
      by_cases hn : sumL l < 0
      · rw [if_pos hn]; exact ⟨by omega, by omega, fun _ => by omega, fun h => absurd hn h⟩
      · rw [if_neg hn]; exact ⟨by omega, by omega, fun h => absurd h hn, fun _ => by omega⟩
    obtain ⟨c, hcd, hc0, hca, hcn, hcp⟩ := hcs
    rw [hcd] at hnn ⊢
    have hdc : ∀ y ∈ l, c ∣ y := fun y hy => by
      have := hdv.2 y hy
      rw [← hca] at this
      exact Int.natAbs_dvd.1 this
    have hq : l = (l.map fun y => y.tdiv c).map (· * c) := by
      rw [List.map_map]
      refine (List.map_id l).symm.trans (List.map_congr_left fun y hy => ?_)
      obtain ⟨z, rfl⟩ := hdc y hy
      simp [Int.mul_tdiv_cancel_left _ hc0, Int.mul_comm]
    have hlen : (l.map fun y => y.tdiv c).length = t.length := by simpa using n1
    generalize (l.map fun y => y.tdiv c) = q at *
    have hsum : sumL l = sumL q * c := by rw [hq]; exact sumL_scale
    have hd : (sumL l).tdiv c = sumL q := by rw [hsum, Int.mul_tdiv_cancel _ hc0]
    rw [hd]
    obtain ⟨s1, s2⟩ := sum_pos_all hnn
    have hq0 : sumL q ≠ 0 := fun h => by rw [hsum, h] at hS; simp at hS
    have hle : sumL q ≤ 10000 := by
      have h1 : (sumL l).natAbs = (sumL q).natAbs * c.natAbs := by rw [hsum, Int.natAbs_mul]
      have h2 : 1 ≤ c.natAbs := by omega
      have h3 := Nat.mul_le_mul_left (sumL q).natAbs h2
      omega
    have hgl : gcdL 0 l = gcdL 0 q * gcdL 0 l := by
      have := gcdL_scale (c := c) (l := q) (g := 0) (by omega)
      rw [Int.zero_mul, ← hq, hca] at this
      exact this
    have hg1 : gcdL 0 q = 1 := by
      have : 1 * gcdL 0 l = gcdL 0 q * gcdL 0 l := by rw [Int.one_mul]; exact hgl
      exact (Int.eq_of_mul_eq_mul_right hG this).symm
    have hgd : gcdL (sumL q) q ∣ 1 := by
      have h1 := gcdL_divides (l := q) (g := sumL q)
      have h2 : gcdL (sumL q) q ∣ gcdL 0 q * 1 := gcdL_dvd ⟨0, by simp⟩ fun y hy => by simpa using h1.2 y hy
      rwa [hg1] at h2
    have hgn := gcdL_nonneg (l := q) (g := sumL q) (show 0 ≤ sumL q from s1)
    have hg2 : gcdL (sumL q) q = 1 := by
      have := Int.le_of_dvd (by omega) hgd
      rcases Int.lt_or_le 0 (gcdL (sumL q) q) with h | h
      · omega
      · have e : gcdL (sumL q) q = 0 := by omega
        rw [e] at hgd; obtain ⟨k, hk⟩ := hgd; omega
    have : mixP t.length q (sumL q) := ⟨by have := hok.1; omega, by have := hok.2.1; omega, by omega, by omega, hle, fun y hy => ⟨hnn y hy, s2 y hy⟩, rfl, hg2⟩
    simp [mixS, this]
  · cases h

/-- What is known of what lasts, one by one. -/
structure Last (t : List (List Int)) (x : List Int × Int) (s : Nat) : Prop where
  set : fashS x.1 = s
  pos : 0 < s
  lt : s < 2 ^ t.length
  rest : restS t s = some x
  lasts : lastsP t x.1 = true
  ask : askS t [x] = true

theorem last_pick {t : List (List Int)} (hok : okTab t) {x : List Int × Int} {s : Nat} (h0 : 0 < s) (hs : s < 2 ^ t.length) (h : pickS t s = some x) : Last t x s := by
  unfold pickS at h
  cases hr : restS t s with
  | none => rw [hr] at h; cases h
  | some y =>
    rw [hr] at h
    simp only at h
    split at h
    · rename_i hl
      cases h
      obtain ⟨xs, d⟩ := x
      have hm := rest_mix hok h0 hs hr
      exact ⟨(resP_some hok h0 hs hr).2.2.1, h0, hs, hr, hl, by simp [askS, hok, hm]⟩
    · cases h

theorem lasting_mem {t : List (List Int)} (hok : okTab t) {x : List Int × Int} : x ∈ lastingS t ↔ askS t [x] = true ∧ lastsP t x.1 = true := by
  unfold lastingS
  rw [List.mem_filterMap]
  constructor
  · rintro ⟨s, h1, h2⟩
    rw [List.mem_range'_1] at h1
    have := last_pick hok (by omega) (by omega) h2
    exact ⟨this.ask, this.lasts⟩
  · rintro ⟨h1, h2⟩
    obtain ⟨xs, d⟩ := x
    have hm := (ask1 h1).2
    have hp := mix_fash hm
    have hl := (mix_facts h1).2.1
    refine ⟨fashS xs, ?_, ?_⟩
    · rw [List.mem_range'_1]
      have := fashS_lt hl
      have hp : 0 < fashS xs := hp
      omega
    · unfold pickS
      rw [rest_of_lasts h1 h2]
      simp only at h2
      simp only [h2, if_true]

theorem lasting_last {t : List (List Int)} (hok : okTab t) {x : List Int × Int} (h : x ∈ lastingS t) : Last t x (fashS x.1) := by
  unfold lastingS at h
  obtain ⟨s, h1, h2⟩ := List.mem_filterMap.1 h
  rw [List.mem_range'_1] at h1
  have := last_pick hok (by omega) (by omega) h2
  rw [this.set]; exact this

theorem lasting_order {t : List (List Int)} (hok : okTab t) : (lastingS t).Pairwise fun x y => fashS x.1 < fashS y.1 := by
  unfold lastingS
  rw [List.pairwise_filterMap]
  have h1 : (List.range' 1 (2 ^ t.length - 1)).Pairwise (· < ·) := List.pairwise_lt_range'
  refine h1.imp_of_mem fun {a b} ha hb hab x hx y hy => ?_
  rw [List.mem_range'_1] at ha hb
  have e1 := (last_pick hok (by omega) (by omega) hx).set
  have e2 := (last_pick hok (by omega) (by omega) hy).set
  omega

/-- Of two that last, the fashions of neither are within those of the other. -/
theorem last_apart {t : List (List Int)} {x y : List Int × Int} {s u : Nat} (hx : Last t x s) (hy : Last t y u) (h : u < s) : subS u s = false := by
  cases h1 : subS u s with
  | false => rfl
  | true =>
    have hok := (ask1 hx.ask).1
    have hn := hok.2.1
    have h8 : 2 ^ t.length ≤ 8 := Nat.pow_le_pow_right (by decide) hn (n := 2)
    have hb8 : bestS t x.1 < 8 := Nat.lt_of_lt_of_le bestS_lt h8
    have h2 := lasts_rest hx.lasts
    rw [hx.set] at h2
    have a1 := (sub_bits (by have := hy.lt; omega) (by have := hx.lt; omega)).1 h1
    have a2 := (sub_bits (by have := hx.lt; omega) hb8).1 h2
    have h3 : subS u (bestS t x.1) = true := (sub_bits (by have := hy.lt; omega) hb8).2 fun i hi hb => a2 i hi (a1 i hi hb)
    rw [← hy.set] at h3
    have := only_rest (xs := x.1) (dx := x.2) (ys := y.1) (dy := y.2) hx.ask hy.ask hx.lasts (lasts_rest hy.lasts) h3
    have e1 := hx.set; have e2 := hy.set
    rw [this.2] at e1
    omega
end Go.X

/-! Bishop: the law. -/
set_option linter.unusedSimpArgs false
set_option linter.unusedVariables false
set_option maxHeartbeats 8000000
set_option maxRecDepth 10000
namespace Go.X
open Go Go.RowKit
section
variable {Y : Run} {H : Heap}

theorem bits_an {x y : Int} : bitsA .andNot .i64 x y = some (.int .i64 (IntKind.wrap .i64 ((BitVec.ofInt 64 x &&& ~~~BitVec.ofInt 64 y).toNat : Int))) := rfl
theorem subS_raw {o b : Nat} {r : Bool} (h : subS o b = r) : (IntKind.wrap .i64 ((BitVec.ofInt 64 (o : Int) &&& ~~~BitVec.ofInt 64 (b : Int)).toNat : Int) == 0) = r := h

theorem L8_0 {w vt p rv fv : AV} {t : List (List Int)} {l : List (List Int × Int)} {i : Nat} {s : Nat} (hw : IsPts w l) (hi : i < l.length) (hl : l.length ≤ 1000) (hr : ∀ x ∈ l, x.1.length ≤ 20)
    (hs : ∀ k (h : k < i), fashS (l[k]'(by omega)).1 < s ∧ subS (fashS (l[k]'(by omega)).1) s = false) (d : Nat) : ∀ (k : Nat) (R : Heap), k + d = i →
    lp E2 Y F8L0 (sp 199 [(17, vI k), (10, vI s), (9, vI i), (8, fv), (7, rv), (5, w), (3, p), (0, vt)]) R = some (.x 2, sp 199 [(9, vI i), (8, fv), (7, rv), (5, w), (3, p), (0, vt)], R) := by
  induction d with
  | zero =>
    intro k R hk
    have : ¬ ((k : Int) < (i : Int)) := by omega
    rw [un8_0]
    simp only [F8L0b, SS, insA, wantedA, Opd.ev, putA, binA, eqbA, unA, fldA, partA, reduceIte, reduceCtorEq, Nat.reduceMod, Nat.reduceDiv, Nat.reduceBEq, resultA, resA, vI, Nat.reduceMul, Nat.reduceAdd, Nat.reduceSub, Nat.reduceEqDiff, Nat.reduceLT, Nat.reducePow, Nat.reduceLeDiff, st, Option.bind_eq_bind, Option.pure_def, List.length_nil, Int.cast_ofNat_Int, List.reverse_nil, UU, idxP, cellsAt, storeA, fillA, zerosA, putAll, optNat, sliceA, row, Int.reduceLT, Int.reduceLE, Int.reduceGT, Int.reduceGE, Int.reduceEq, Int.reduceNe, Int.reduceToNat, Int.reduceBEq, Int.reduceBNe, Nat.reduceLeDiff, Nat.reduceLT, Nat.reduceBNe, Nat.reduceGT, List.drop_nil, List.take_nil, Option.isSome_none, Int.ofNat_one, Int.ofNat_zero, this]
  | succ d ih =>
    intro k R hk
    have hlt : k < l.length := by omega
    have hc : (k : Int) < (i : Int) := by omega
    have hww := wrap_succ (n := k) (by omega)
    obtain ⟨s1, r1, c1, e1, h1⟩ := hw.get hlt
    have hf := fun H => freeX_up (Y := Y) E2_up (fash36 (Y := noRun) (H := H) (dv := vI l[k].2) h1 (hr _ (by simp)))
    have e3 : ∀ (k : Nat), 1 + 1 ≤ k + 1 + 1 := fun k => by omega
    obtain ⟨h5, h6⟩ := hs k (by omega)
    have h7 : ¬ ((fashS l[k].1 : Int) ≥ (s : Int)) := by omega
    have h8 := subS_raw h6
    have hq := ih (k + 1) R (by omega)
    rw [un8_0]
    have hf : ∀ H, freeX H (callL E2 Y 36 [.agg [r1, vI l[k].2]] []) = some (vI (fashS l[k].1 : Int), H) := hf
    simp only [SS, insA, wantedA, Opd.ev, putA, binA, eqbA, unA, fldA, partA, reduceIte, reduceCtorEq, Nat.reduceMod, Nat.reduceDiv, Nat.reduceBEq, resultA, resA, vI, Nat.reduceMul, Nat.reduceAdd, Nat.reduceSub, Nat.reduceEqDiff, Nat.reduceLT, Nat.reducePow, Nat.reduceLeDiff, st, Option.bind_eq_bind, Option.pure_def, List.length_nil, Int.cast_ofNat_Int, List.reverse_nil] at hq hf
    simp only [F8L0b, SS, insA, wantedA, Opd.ev, putA, binA, eqbA, unA, fldA, partA, reduceIte, reduceCtorEq, Nat.reduceMod, Nat.reduceDiv, Nat.reduceBEq, resultA, resA, vI, Nat.reduceMul, Nat.reduceAdd, Nat.reduceSub, Nat.reduceEqDiff, Nat.reduceLT, Nat.reducePow, Nat.reduceLeDiff, st, Option.bind_eq_bind, Option.pure_def, List.length_nil, Int.cast_ofNat_Int, List.reverse_nil, UU, idxP, cellsAt, storeA, fillA, zerosA, putAll, optNat, sliceA, row, Int.reduceLT, Int.reduceLE, Int.reduceGT, Int.reduceGE, Int.reduceEq, Int.reduceNe, Int.reduceToNat, Int.reduceBEq, Int.reduceBNe, Nat.reduceLeDiff, Nat.reduceLT, Nat.reduceBNe, Nat.reduceGT, List.drop_nil, List.take_nil, Option.isSome_none, Int.ofNat_one, Int.ofNat_zero, hc, hww, hw.len, hlt, e1, e3, h1.snap, hf, h7, bits_an, h8, hq]

theorem L8_2 {w yv : AV} {ys : List Int} {dy : Int} {l : List (List Int × Int)} {R : Heap} (hw : IsPts w l) (hl : l.length ≤ 1000) (hr : ∀ x ∈ l, x.1.length ≤ 20) (hy : IsRow yv ys) (d : Nat) : ∀ (i : Nat) (b : Bool), i + d = l.length →
    lp E2 Y F8L2 (sp 199 [(21, vI i), (20, .bool b), (5, w), (3, .ptr 0 0 0)]) (⟨0, [yv, vI dy]⟩ :: R) = some (.x 4, sp 199 [(20, .bool (b || (l.drop i).any fun x => decide (x.2 = dy ∧ x.1 = ys)))], ⟨0, [yv, vI dy]⟩ :: R) := by
  induction d with
  | zero =>
    intro i b hi
    have : ¬ ((i : Int) < (l.length : Int)) := by omega
    rw [un8_2, List.drop_eq_nil_of_le (by omega)]
    simp only [F8L2b, SS, insA, wantedA, Opd.ev, putA, binA, eqbA, unA, fldA, partA, reduceIte, reduceCtorEq, Nat.reduceMod, Nat.reduceDiv, Nat.reduceBEq, resultA, resA, vI, Nat.reduceMul, Nat.reduceAdd, Nat.reduceSub, Nat.reduceEqDiff, Nat.reduceLT, Nat.reducePow, Nat.reduceLeDiff, st, Option.bind_eq_bind, Option.pure_def, List.length_nil, Int.cast_ofNat_Int, List.reverse_nil, UU, idxP, cellsAt, storeA, fillA, zerosA, putAll, optNat, sliceA, row, Int.reduceLT, Int.reduceLE, Int.reduceGT, Int.reduceGE, Int.reduceEq, Int.reduceNe, Int.reduceToNat, Int.reduceBEq, Int.reduceBNe, Nat.reduceLeDiff, Nat.reduceLT, Nat.reduceBNe, Nat.reduceGT, List.drop_nil, List.take_nil, Option.isSome_none, Int.ofNat_one, Int.ofNat_zero, this, hw.len, List.any_nil, Bool.or_false]
  | succ d ih =>
    intro i b hi
    have hlt : i < l.length := by omega
    have hc : (i : Int) < (l.length : Int) := by omega
    have hww := wrap_succ (n := i) (by omega)
    obtain ⟨s1, r1, c1, e1, h1⟩ := hw.get hlt
    have hs := fun H => freeX_up (Y := Y) E2_up (same19 (Y := noRun) (H := H) (c := l[i].2) (d := dy) h1 hy (by have := hr l[i] (by simp); omega))
    have e3 : ∀ (k : Nat), 1 + 1 ≤ k + 1 + 1 := fun k => by omega
    rw [un8_2, List.drop_eq_getElem_cons hlt, List.any_cons]
    cases b
    · have hq := ih (i + 1) (decide (l[i].2 = dy ∧ l[i].1 = ys)) (by omega)
      simp only [SS, insA, wantedA, Opd.ev, putA, binA, eqbA, unA, fldA, partA, reduceIte, reduceCtorEq, Nat.reduceMod, Nat.reduceDiv, Nat.reduceBEq, resultA, resA, vI, Nat.reduceMul, Nat.reduceAdd, Nat.reduceSub, Nat.reduceEqDiff, Nat.reduceLT, Nat.reducePow, Nat.reduceLeDiff, st, Option.bind_eq_bind, Option.pure_def, List.length_nil, Int.cast_ofNat_Int, List.reverse_nil] at hq hs
      simp only [F8L2b, SS, insA, wantedA, Opd.ev, putA, binA, eqbA, unA, fldA, partA, reduceIte, reduceCtorEq, Nat.reduceMod, Nat.reduceDiv, Nat.reduceBEq, resultA, resA, vI, Nat.reduceMul, Nat.reduceAdd, Nat.reduceSub, Nat.reduceEqDiff, Nat.reduceLT, Nat.reducePow, Nat.reduceLeDiff, st, Option.bind_eq_bind, Option.pure_def, List.length_nil, Int.cast_ofNat_Int, List.reverse_nil, UU, idxP, cellsAt, storeA, fillA, zerosA, putAll, optNat, sliceA, row, Int.reduceLT, Int.reduceLE, Int.reduceGT, Int.reduceGE, Int.reduceEq, Int.reduceNe, Int.reduceToNat, Int.reduceBEq, Int.reduceBNe, Nat.reduceLeDiff, Nat.reduceLT, Nat.reduceBNe, Nat.reduceGT, List.drop_nil, List.take_nil, Option.isSome_none, Int.ofNat_one, Int.ofNat_zero, hc, hww, hw.len, hlt, e1, e3, h1.snap, hy.snap, hs, hq, Bool.false_or]
    · have hq := ih (i + 1) true (by omega)
      simp only [SS, insA, wantedA, Opd.ev, putA, binA, eqbA, unA, fldA, partA, reduceIte, reduceCtorEq, Nat.reduceMod, Nat.reduceDiv, Nat.reduceBEq, resultA, resA, vI, Nat.reduceMul, Nat.reduceAdd, Nat.reduceSub, Nat.reduceEqDiff, Nat.reduceLT, Nat.reducePow, Nat.reduceLeDiff, st, Option.bind_eq_bind, Option.pure_def, List.length_nil, Int.cast_ofNat_Int, List.reverse_nil] at hq
      simp only [F8L2b, SS, insA, wantedA, Opd.ev, putA, binA, eqbA, unA, fldA, partA, reduceIte, reduceCtorEq, Nat.reduceMod, Nat.reduceDiv, Nat.reduceBEq, resultA, resA, vI, Nat.reduceMul, Nat.reduceAdd, Nat.reduceSub, Nat.reduceEqDiff, Nat.reduceLT, Nat.reducePow, Nat.reduceLeDiff, st, Option.bind_eq_bind, Option.pure_def, List.length_nil, Int.cast_ofNat_Int, List.reverse_nil, UU, idxP, cellsAt, storeA, fillA, zerosA, putAll, optNat, sliceA, row, Int.reduceLT, Int.reduceLE, Int.reduceGT, Int.reduceGE, Int.reduceEq, Int.reduceNe, Int.reduceToNat, Int.reduceBEq, Int.reduceBNe, Nat.reduceLeDiff, Nat.reduceLT, Nat.reduceBNe, Nat.reduceGT, List.drop_nil, List.take_nil, Option.isSome_none, Int.ofNat_one, Int.ofNat_zero, hc, hww, hw.len, hlt, hq, Bool.true_or]

theorem restR_last {t : List (List Int)} (hok : okTab t) {x : List Int × Int} {s : Nat} (h : Last t x s) : restR t (s : Int) = .tup [.agg [.imm false (x.1.map vI) x.1.length, vI x.2], vI 0] := by
  unfold restR
  have h1 := h.pos; have h2 := h.lt
  rw [if_pos ⟨hok, by omega, by omega⟩, Int.toNat_natCast, h.rest]

theorem L8_1 {w vt yv : AV} {t : List (List Int)} {ys : List Int} {dy : Int} {l : List (List Int × Int)} {fn : Int} {rb : Bool} (ht : IsTab vt t) (hs : Small t) (hok : okTab t) (hw : IsPts w l) (hl : l.length ≤ 1000)
    (hL : ∀ x ∈ l, Last t x (fashS x.1)) (hP : l.Pairwise fun x y => fashS x.1 < fashS y.1) (hy : IsRow yv ys) (hyl : ys.length ≤ 20)
    (hf : fn = 2 ∨ fn = 0 ∧ askS t [(ys, dy)] = true ∧ rb = subS (fashS ys) (bestS t ys)) (d : Nat) : ∀ (i : Nat) (R : Heap), i + d = l.length →
    ∃ R', lp E2 Y F8L1 (sp 199 [(9, vI i), (8, vI fn), (7, .bool rb), (5, w), (3, .ptr 0 0 0), (0, vt)]) (⟨0, [yv, vI dy]⟩ :: R) = some (.x 0, sp 199 [(5, w), (3, .ptr 0 0 0), (0, vt)], ⟨0, [yv, vI dy]⟩ :: R') := by
  have hn := hok.2.1
  have hr : ∀ x ∈ l, x.1.length ≤ 20 := fun x hx => by have := (mix_facts (hL x hx).ask).2.1; omega
  induction d with
  | zero =>
    intro i R hi
    have : ¬ ((i : Int) < (l.length : Int)) := by omega
    refine ⟨R, ?_⟩
    rw [un8_1]
    simp only [F8L1b, SS, insA, wantedA, Opd.ev, putA, binA, eqbA, unA, fldA, partA, reduceIte, reduceCtorEq, Nat.reduceMod, Nat.reduceDiv, Nat.reduceBEq, resultA, resA, vI, Nat.reduceMul, Nat.reduceAdd, Nat.reduceSub, Nat.reduceEqDiff, Nat.reduceLT, Nat.reducePow, Nat.reduceLeDiff, st, Option.bind_eq_bind, Option.pure_def, List.length_nil, Int.cast_ofNat_Int, List.reverse_nil, UU, idxP, cellsAt, storeA, fillA, zerosA, putAll, optNat, sliceA, row, Int.reduceLT, Int.reduceLE, Int.reduceGT, Int.reduceGE, Int.reduceEq, Int.reduceNe, Int.reduceToNat, Int.reduceBEq, Int.reduceBNe, Nat.reduceLeDiff, Nat.reduceLT, Nat.reduceBNe, Nat.reduceGT, List.drop_nil, List.take_nil, Option.isSome_none, Int.ofNat_one, Int.ofNat_zero, this, hw.len]
  | succ d ih =>
    intro i R hi
    have hlt : i < l.length := by omega
    have hc : (i : Int) < (l.length : Int) := by omega
    have hww := wrap_succ (n := i) (by omega)
    obtain ⟨s1, r1, c1, e1, h1⟩ := hw.get hlt
    have e3 : ∀ (k : Nat), 1 + 1 ≤ k + 1 + 1 := fun k => by omega
    have hx := hL l[i] (by simp)
    have hxl := hr l[i] (by simp)
    have ht1000 : t.length < 1000 := by have := hs.1; omega
    have hin : ∀ k (h : k < i), fashS (l[k]'(by omega)).1 < fashS l[i].1 ∧ subS (fashS (l[k]'(by omega)).1) (fashS l[i].1) = false := fun k h => by
      have h2 := List.pairwise_iff_getElem.1 hP k i (by omega) hlt h
      exact ⟨h2, last_apart hx (hL l[k] (by simp)) h2⟩
    obtain ⟨R', hR'⟩ := ih (i + 1) (R ++ [⟨0, [.imm false (l[i].1.map vI) l[i].1.length, vI l[i].2]⟩]) (by omega)
    have hq := L8_0 (Y := Y) (vt := vt) (p := .ptr 0 0 0) (rv := .bool rb) (fv := vI fn) (t := t) hw hlt hl hr hin i 0 (⟨0, [yv, vI dy]⟩ :: (R ++ [⟨0, [.imm false (l[i].1.map vI) l[i].1.length, vI l[i].2]⟩])) (by omega)
    have hm : mixS t.length l[i].1 l[i].2 = true := (ask1 (show askS t [(l[i].1, l[i].2)] = true from hx.ask)).2
    have kx := fun H => freeX_up (Y := Y) E2_up (mix22 (Y := noRun) (H := H) (n := t.length) (den := l[i].2) h1 hxl)
    have k36 : ∀ H, freeX H (callL E2 Y 36 [.agg [r1, vI l[i].2]] []) = some (vI (fashS l[i].1 : Int), H) := fun H => freeX_up (Y := Y) E2_up (fash36 (Y := noRun) (H := H) (dv := vI l[i].2) h1 hxl)
    have k27 := fun H => freeX_up (Y := Y) E2_up (best27 (Y := noRun) (H := H) (dx := l[i].2) ht ht1000 h1 hxl)
    have k32 := fun H => freeX_up (Y := Y) E2_up (lasts32 (Y := noRun) (H := H) (dx := l[i].2) ht ht1000 h1 hxl)
    have k30 := fun H => freeX_up (Y := Y) E2_up (resting30 (Y := noRun) (H := H) (s := (fashS l[i].1 : Int)) ht hs)
    have k19 := fun s H => freeX_up (Y := Y) E2_up (same19 (Y := noRun) (H := H) (c := l[i].2) (d := l[i].2) (.imm s l[i].1) h1 (by omega))
    have hask : askS t [(l[i].1, l[i].2)] = true := hx.ask
    have hlast : lastsP t l[i].1 = true := hx.lasts
    rw [hm] at kx
    simp only [restR_last hok hx] at k30
    simp only [hask, hlast, Bool.and_self, err, if_true, true_and] at k27 k32
    simp only [decide_true, and_self] at k19
    refine ⟨R', ?_⟩
    rw [un8_1]
    rcases hf with rfl | ⟨rfl, hay, rfl⟩
    · simp only [SS, insA, wantedA, Opd.ev, putA, binA, eqbA, unA, fldA, partA, reduceIte, reduceCtorEq, Nat.reduceMod, Nat.reduceDiv, Nat.reduceBEq, resultA, resA, vI, Nat.reduceMul, Nat.reduceAdd, Nat.reduceSub, Nat.reduceEqDiff, Nat.reduceLT, Nat.reducePow, Nat.reduceLeDiff, st, Option.bind_eq_bind, Option.pure_def, List.length_nil, Int.cast_ofNat_Int, List.reverse_nil, Int.ofNat_zero] at hq hR' kx k36 k27 k32 k30 k19
      simp only [F8L1b, F8T0, in8_0, SS, insA, wantedA, Opd.ev, putA, binA, eqbA, unA, fldA, partA, reduceIte, reduceCtorEq, Nat.reduceMod, Nat.reduceDiv, Nat.reduceBEq, resultA, resA, vI, Nat.reduceMul, Nat.reduceAdd, Nat.reduceSub, Nat.reduceEqDiff, Nat.reduceLT, Nat.reducePow, Nat.reduceLeDiff, st, Option.bind_eq_bind, Option.pure_def, List.length_nil, Int.cast_ofNat_Int, List.reverse_nil, UU, idxP, cellsAt, storeA, fillA, zerosA, putAll, optNat, sliceA, row, Int.reduceLT, Int.reduceLE, Int.reduceGT, Int.reduceGE, Int.reduceEq, Int.reduceNe, Int.reduceToNat, Int.reduceBEq, Int.reduceBNe, Nat.reduceLeDiff, Nat.reduceLT, Nat.reduceBNe, Nat.reduceGT, List.drop_nil, List.take_nil, Option.isSome_none, Int.ofNat_one, Int.ofNat_zero, hc, hww, hw.len, hlt, e1, e3, h1.snap, ht.snap, ht.len, kx, k36, k27, k32, k30, k19, get_last, set_last, List.cons_append, hq, hR', BEq.rfl, bne_self_eq_false]
    · cases hrb : subS (fashS ys) (bestS t ys)
      · rw [hrb] at hR' hq
        simp only [SS, insA, wantedA, Opd.ev, putA, binA, eqbA, unA, fldA, partA, reduceIte, reduceCtorEq, Nat.reduceMod, Nat.reduceDiv, Nat.reduceBEq, resultA, resA, vI, Nat.reduceMul, Nat.reduceAdd, Nat.reduceSub, Nat.reduceEqDiff, Nat.reduceLT, Nat.reducePow, Nat.reduceLeDiff, st, Option.bind_eq_bind, Option.pure_def, List.length_nil, Int.cast_ofNat_Int, List.reverse_nil, Int.ofNat_zero] at hq hR' kx k36 k27 k32 k30 k19
        simp only [F8L1b, F8T0, in8_0, SS, insA, wantedA, Opd.ev, putA, binA, eqbA, unA, fldA, partA, reduceIte, reduceCtorEq, Nat.reduceMod, Nat.reduceDiv, Nat.reduceBEq, resultA, resA, vI, Nat.reduceMul, Nat.reduceAdd, Nat.reduceSub, Nat.reduceEqDiff, Nat.reduceLT, Nat.reducePow, Nat.reduceLeDiff, st, Option.bind_eq_bind, Option.pure_def, List.length_nil, Int.cast_ofNat_Int, List.reverse_nil, UU, idxP, cellsAt, storeA, fillA, zerosA, putAll, optNat, sliceA, row, Int.reduceLT, Int.reduceLE, Int.reduceGT, Int.reduceGE, Int.reduceEq, Int.reduceNe, Int.reduceToNat, Int.reduceBEq, Int.reduceBNe, Nat.reduceLeDiff, Nat.reduceLT, Nat.reduceBNe, Nat.reduceGT, List.drop_nil, List.take_nil, Option.isSome_none, Int.ofNat_one, Int.ofNat_zero, hc, hww, hw.len, hlt, e1, e3, h1.snap, ht.snap, ht.len, kx, k36, k27, k32, k30, k19, get_last, set_last, List.cons_append, hq, hR', BEq.rfl, bne_self_eq_false]
      · rw [hrb] at hR' hq
        have ky := fun H => freeX_up (Y := Y) E2_up (mix22 (Y := noRun) (H := H) (n := t.length) (den := dy) hy hyl)
        rw [(ask1 hay).2] at ky
        have ks := fun H => freeX_up (Y := Y) E2_up (same19 (Y := noRun) (H := H) (c := dy) (d := l[i].2) hy h1 (by omega))
        have k36y : ∀ H, freeX H (callL E2 Y 36 [.agg [yv, vI dy]] []) = some (vI (fashS ys : Int), H) := fun H => freeX_up (Y := Y) E2_up (fash36 (Y := noRun) (H := H) (dv := vI dy) hy hyl)
        by_cases hsame : dy = l[i].2 ∧ ys = l[i].1
        · rw [decide_eq_true hsame] at ks
          simp only [SS, insA, wantedA, Opd.ev, putA, binA, eqbA, unA, fldA, partA, reduceIte, reduceCtorEq, Nat.reduceMod, Nat.reduceDiv, Nat.reduceBEq, resultA, resA, vI, Nat.reduceMul, Nat.reduceAdd, Nat.reduceSub, Nat.reduceEqDiff, Nat.reduceLT, Nat.reducePow, Nat.reduceLeDiff, st, Option.bind_eq_bind, Option.pure_def, List.length_nil, Int.cast_ofNat_Int, List.reverse_nil, Int.ofNat_zero] at hq hR' kx k36 k27 k32 k30 k19 ky ks
          simp only [F8L1b, F8T0, in8_0, SS, insA, wantedA, Opd.ev, putA, binA, eqbA, unA, fldA, partA, reduceIte, reduceCtorEq, Nat.reduceMod, Nat.reduceDiv, Nat.reduceBEq, resultA, resA, vI, Nat.reduceMul, Nat.reduceAdd, Nat.reduceSub, Nat.reduceEqDiff, Nat.reduceLT, Nat.reducePow, Nat.reduceLeDiff, st, Option.bind_eq_bind, Option.pure_def, List.length_nil, Int.cast_ofNat_Int, List.reverse_nil, UU, idxP, cellsAt, storeA, fillA, zerosA, putAll, optNat, sliceA, row, Int.reduceLT, Int.reduceLE, Int.reduceGT, Int.reduceGE, Int.reduceEq, Int.reduceNe, Int.reduceToNat, Int.reduceBEq, Int.reduceBNe, Nat.reduceLeDiff, Nat.reduceLT, Nat.reduceBNe, Nat.reduceGT, List.drop_nil, List.take_nil, Option.isSome_none, Int.ofNat_one, Int.ofNat_zero, hc, hww, hw.len, hlt, e1, e3, h1.snap, ht.snap, ht.len, hy.snap, kx, k36, k27, k32, k30, k19, ky, ks, get_last, set_last, List.cons_append, hq, hR', BEq.rfl, bne_self_eq_false]
        · rw [decide_eq_false hsame] at ks
          have hsub : subS (fashS ys) (bestS t l[i].1) = false := by
            cases h : subS (fashS ys) (bestS t l[i].1)
            · rfl
            · have := only_rest hask hay hlast hrb h
              exact absurd ⟨this.1.symm, this.2.symm⟩ hsame
          have hsub := subS_raw hsub
          simp only [SS, insA, wantedA, Opd.ev, putA, binA, eqbA, unA, fldA, partA, reduceIte, reduceCtorEq, Nat.reduceMod, Nat.reduceDiv, Nat.reduceBEq, resultA, resA, vI, Nat.reduceMul, Nat.reduceAdd, Nat.reduceSub, Nat.reduceEqDiff, Nat.reduceLT, Nat.reducePow, Nat.reduceLeDiff, st, Option.bind_eq_bind, Option.pure_def, List.length_nil, Int.cast_ofNat_Int, List.reverse_nil, Int.ofNat_zero] at hq hR' kx k36 k27 k32 k30 k19 ky ks k36y
          simp only [F8L1b, F8T0, in8_0, SS, insA, wantedA, Opd.ev, putA, binA, eqbA, unA, fldA, partA, reduceIte, reduceCtorEq, Nat.reduceMod, Nat.reduceDiv, Nat.reduceBEq, resultA, resA, vI, Nat.reduceMul, Nat.reduceAdd, Nat.reduceSub, Nat.reduceEqDiff, Nat.reduceLT, Nat.reducePow, Nat.reduceLeDiff, st, Option.bind_eq_bind, Option.pure_def, List.length_nil, Int.cast_ofNat_Int, List.reverse_nil, UU, idxP, cellsAt, storeA, fillA, zerosA, putAll, optNat, sliceA, row, Int.reduceLT, Int.reduceLE, Int.reduceGT, Int.reduceGE, Int.reduceEq, Int.reduceNe, Int.reduceToNat, Int.reduceBEq, Int.reduceBNe, Nat.reduceLeDiff, Nat.reduceLT, Nat.reduceBNe, Nat.reduceGT, List.drop_nil, List.take_nil, Option.isSome_none, Int.ofNat_one, Int.ofNat_zero, hc, hww, hw.len, hlt, e1, e3, h1.snap, ht.snap, ht.len, hy.snap, kx, k36, k27, k32, k30, k19, ky, ks, k36y, bits_an, hsub, get_last, set_last, List.cons_append, hq, hR', BEq.rfl, bne_self_eq_false]

theorem T8_2 {w vt yv : AV} {t : List (List Int)} {ys : List Int} {dy : Int} {R : Heap} (ht : IsTab vt t) (hs : Small t) (hok : okTab t) (hw : IsPts w (lastingS t)) (hl : (lastingS t).length ≤ 1000) (hr : ∀ x ∈ lastingS t, x.1.length ≤ 20)
    (hy : IsRow yv ys) (hyl : ys.length ≤ 20) : ∃ fr H', codeL E2 Y F8T2 (sp 199 [(5, w), (3, .ptr 0 0 0), (0, vt)]) (⟨0, [yv, vI dy]⟩ :: R) = some (.r, fr, H') ∧ fr.getD 4 .undef = .bool true := by
  have ht1000 : t.length < 1000 := by have := hs.1; omega
  have ha := fun H => freeX_up (Y := Y) E2_up (alive16 (Y := noRun) (H := H))
  have k32 := fun H => freeX_up (Y := Y) E2_up (lasts32 (Y := noRun) (H := H) (dx := dy) ht ht1000 hy hyl)
  have ky := fun H => freeX_up (Y := Y) E2_up (mix22 (Y := noRun) (H := H) (n := t.length) (den := dy) hy hyl)
  cases hay : askS t [(ys, dy)]
  · have hm : mixS t.length ys dy = false := by simpa [askS, hok] using hay
    simp only [hay, Bool.false_and, err, Bool.false_eq_true, if_false] at k32
    rw [hm] at ky
    simp only [SS, insA, wantedA, Opd.ev, putA, binA, eqbA, unA, fldA, partA, reduceIte, reduceCtorEq, Nat.reduceMod, Nat.reduceDiv, Nat.reduceBEq, resultA, resA, vI, Nat.reduceMul, Nat.reduceAdd, Nat.reduceSub, Nat.reduceEqDiff, Nat.reduceLT, Nat.reducePow, Nat.reduceLeDiff, st, Option.bind_eq_bind, Option.pure_def, List.length_nil, Int.cast_ofNat_Int, List.reverse_nil, Int.ofNat_zero] at k32 ky
    simp only [F8T2, SS, insA, wantedA, Opd.ev, putA, binA, eqbA, unA, fldA, partA, reduceIte, reduceCtorEq, Nat.reduceMod, Nat.reduceDiv, Nat.reduceBEq, resultA, resA, vI, Nat.reduceMul, Nat.reduceAdd, Nat.reduceSub, Nat.reduceEqDiff, Nat.reduceLT, Nat.reducePow, Nat.reduceLeDiff, st, Option.bind_eq_bind, Option.pure_def, List.length_nil, Int.cast_ofNat_Int, List.reverse_nil, UU, idxP, cellsAt, storeA, fillA, zerosA, putAll, optNat, sliceA, row, Int.reduceLT, Int.reduceLE, Int.reduceGT, Int.reduceGE, Int.reduceEq, Int.reduceNe, Int.reduceToNat, Int.reduceBEq, Int.reduceBNe, Nat.reduceLeDiff, Nat.reduceLT, Nat.reduceBNe, Nat.reduceGT, List.drop_nil, List.take_nil, Option.isSome_none, Int.ofNat_one, Int.ofNat_zero, ht.snap, ht.len, hy.snap, k32, ky, ha, BEq.rfl, bne_self_eq_false]
    exact ⟨_, _, rfl, rfl⟩
  · have hm : mixS t.length ys dy = true := (ask1 hay).2
    rw [hm] at ky
    cases hL : lastsP t ys
    · simp only [hay, hL, Bool.true_and, err, if_true] at k32
      simp only [SS, insA, wantedA, Opd.ev, putA, binA, eqbA, unA, fldA, partA, reduceIte, reduceCtorEq, Nat.reduceMod, Nat.reduceDiv, Nat.reduceBEq, resultA, resA, vI, Nat.reduceMul, Nat.reduceAdd, Nat.reduceSub, Nat.reduceEqDiff, Nat.reduceLT, Nat.reducePow, Nat.reduceLeDiff, st, Option.bind_eq_bind, Option.pure_def, List.length_nil, Int.cast_ofNat_Int, List.reverse_nil, Int.ofNat_zero] at k32 ky
      simp only [F8T2, SS, insA, wantedA, Opd.ev, putA, binA, eqbA, unA, fldA, partA, reduceIte, reduceCtorEq, Nat.reduceMod, Nat.reduceDiv, Nat.reduceBEq, resultA, resA, vI, Nat.reduceMul, Nat.reduceAdd, Nat.reduceSub, Nat.reduceEqDiff, Nat.reduceLT, Nat.reducePow, Nat.reduceLeDiff, st, Option.bind_eq_bind, Option.pure_def, List.length_nil, Int.cast_ofNat_Int, List.reverse_nil, UU, idxP, cellsAt, storeA, fillA, zerosA, putAll, optNat, sliceA, row, Int.reduceLT, Int.reduceLE, Int.reduceGT, Int.reduceGE, Int.reduceEq, Int.reduceNe, Int.reduceToNat, Int.reduceBEq, Int.reduceBNe, Nat.reduceLeDiff, Nat.reduceLT, Nat.reduceBNe, Nat.reduceGT, List.drop_nil, List.take_nil, Option.isSome_none, Int.ofNat_one, Int.ofNat_zero, ht.snap, ht.len, hy.snap, k32, ky, ha, BEq.rfl, bne_self_eq_false]
      exact ⟨_, _, rfl, rfl⟩
    · simp only [hay, hL, Bool.true_and, err, if_true] at k32
      have hq := L8_2 (Y := Y) (R := R) (dy := dy) hw hl hr hy (lastingS t).length 0 false (by omega)
      have hmem : (ys, dy) ∈ lastingS t := (lasting_mem hok).2 ⟨hay, hL⟩
      have hany : ((lastingS t).drop 0).any (fun x => decide (x.2 = dy ∧ x.1 = ys)) = true := by
        rw [List.drop_zero, List.any_eq_true]
        exact ⟨_, hmem, by simp⟩
      rw [hany] at hq
      simp only [SS, insA, wantedA, Opd.ev, putA, binA, eqbA, unA, fldA, partA, reduceIte, reduceCtorEq, Nat.reduceMod, Nat.reduceDiv, Nat.reduceBEq, resultA, resA, vI, Nat.reduceMul, Nat.reduceAdd, Nat.reduceSub, Nat.reduceEqDiff, Nat.reduceLT, Nat.reducePow, Nat.reduceLeDiff, st, Option.bind_eq_bind, Option.pure_def, List.length_nil, Int.cast_ofNat_Int, List.reverse_nil, Int.ofNat_zero] at k32 hq
      simp only [F8T2, F8T1, in8_2, SS, insA, wantedA, Opd.ev, putA, binA, eqbA, unA, fldA, partA, reduceIte, reduceCtorEq, Nat.reduceMod, Nat.reduceDiv, Nat.reduceBEq, resultA, resA, vI, Nat.reduceMul, Nat.reduceAdd, Nat.reduceSub, Nat.reduceEqDiff, Nat.reduceLT, Nat.reducePow, Nat.reduceLeDiff, st, Option.bind_eq_bind, Option.pure_def, List.length_nil, Int.cast_ofNat_Int, List.reverse_nil, UU, idxP, cellsAt, storeA, fillA, zerosA, putAll, optNat, sliceA, row, Int.reduceLT, Int.reduceLE, Int.reduceGT, Int.reduceGE, Int.reduceEq, Int.reduceNe, Int.reduceToNat, Int.reduceBEq, Int.reduceBNe, Nat.reduceLeDiff, Nat.reduceLT, Nat.reduceBNe, Nat.reduceGT, List.drop_nil, List.take_nil, Option.isSome_none, Int.ofNat_one, Int.ofNat_zero, ht.snap, ht.len, hy.snap, k32, hq, ha, BEq.rfl, bne_self_eq_false]
      exact ⟨_, _, rfl, rfl⟩
end
end Go.X

/-! Bishop: the law, joined. -/
set_option linter.unusedSimpArgs false
set_option linter.unusedVariables false
set_option maxHeartbeats 8000000
set_option maxRecDepth 10000
namespace Go.X
open Go Go.RowKit
section
variable {Y : Run} {H : Heap}

theorem law8 {vt yv : AV} {t : List (List Int)} {ys : List Int} {dy : Int} (ht : IsTab vt t) (hy : IsRow yv ys) : freeX [] (callL E2 Y 8 [vt, .agg [yv, vI dy]] []) = some (.bool true, []) := by
  obtain ⟨o1, o2, o3⟩ := hy.one
  have f := fun H => few15 (Y := noRun) (H := H) ht (pts1 (s := true) (dx := dy) hy) (by simp)
  have ha := fun H => freeX_up (Y := Y) E2_up (alive16 (Y := noRun) (H := H))
  rw [call8 rfl]
  by_cases hf : fewS t [(ys, dy)]
  · have f1 := fun H => freeX_up (Y := Y) E2_up ((f H).1 hf)
    have hyl : ys.length ≤ 20 := hf.2 (ys, dy) (by simp)
    have hs := hf.1
    have ht1000 : t.length < 1000 := by have := hs.1; omega
    have kt := fun H => callL_up (Y := Y) E2_up (table34 (Y := noRun) (H := H) ht hs)
    by_cases hok : okTab t
    · rw [decide_eq_true hok] at kt
      obtain ⟨w, iw, lw⟩ := lasting17 (Y := noRun) ht ht1000 hok
      have lw := fun H => freeX_up (Y := Y) E2_up (lw H)
      obtain ⟨b1, b2⟩ := lasting_rows hok
      have hr : ∀ x ∈ lastingS t, x.1.length ≤ 20 := fun x hx => by have := (mix_facts (lasting_last hok hx).ask).2.1; have := hs.1; omega
      have k25 := fun H => freeX_up (Y := Y) E2_up (rest25 (Y := noRun) (H := H) (dx := dy) ht ht1000 hy hyl)
      have key : ∀ (rb : Bool) (fn : Int), (fn = 2 ∨ fn = 0 ∧ askS t [(ys, dy)] = true ∧ rb = subS (fashS ys) (bestS t ys)) → (∀ H, freeX H (callL E2 Y 25 [vt, .agg [yv, vI dy]] []) = some (.tup [.bool rb, vI fn], H)) → freeX [] (endX [.tmp 4] (codeL E2 Y F8B (sp 199 [(1, .agg [yv, vI dy]), (0, vt)]) [])) = some (.bool true, []) := by
        intro rb fn hfn k25
        have hq := fun R => L8_1 (Y := Y) ht hs hok iw.pts b1 (fun x hx => lasting_last hok hx) (lasting_order hok) hy hyl hfn (lastingS t).length 0 R (by omega)
        simp only [SS, insA, wantedA, Opd.ev, putA, binA, eqbA, unA, fldA, partA, reduceIte, reduceCtorEq, Nat.reduceMod, Nat.reduceDiv, Nat.reduceBEq, resultA, resA, vI, Nat.reduceMul, Nat.reduceAdd, Nat.reduceSub, Nat.reduceEqDiff, Nat.reduceLT, Nat.reducePow, Nat.reduceLeDiff, st, Option.bind_eq_bind, Option.pure_def, List.length_nil, Int.cast_ofNat_Int, List.reverse_nil, Int.ofNat_zero] at f1 kt lw k25 hq
        have hcut : ∀ fr H, codeL E2 Y F8B fr H = thenX (codeL E2 Y (headC 5 F8B) fr H) (codeL E2 Y (tailC 5 F8B)) := fun fr H => cut 5 F8B fr H
        rw [hcut]
        simp only [headC, F8B, SS, insA, wantedA, Opd.ev, putA, binA, eqbA, unA, fldA, partA, reduceIte, reduceCtorEq, Nat.reduceMod, Nat.reduceDiv, Nat.reduceBEq, resultA, resA, vI, Nat.reduceMul, Nat.reduceAdd, Nat.reduceSub, Nat.reduceEqDiff, Nat.reduceLT, Nat.reducePow, Nat.reduceLeDiff, st, Option.bind_eq_bind, Option.pure_def, List.length_nil, Int.cast_ofNat_Int, List.reverse_nil, UU, idxP, cellsAt, storeA, fillA, zerosA, putAll, optNat, sliceA, row, Int.reduceLT, Int.reduceLE, Int.reduceGT, Int.reduceGE, Int.reduceEq, Int.reduceNe, Int.reduceToNat, Int.reduceBEq, Int.reduceBNe, Nat.reduceLeDiff, Nat.reduceLT, Nat.reduceBNe, Nat.reduceGT, List.drop_nil, List.take_nil, Option.isSome_none, Int.ofNat_one, Int.ofNat_zero, o1, o2, o3, ht.snap, ht.len, hy.snap, f1, kt, lw, k25, BEq.rfl, bne_self_eq_false]
        simp only [tailC, in8_1, SS, insA, wantedA, Opd.ev, putA, binA, eqbA, unA, fldA, partA, reduceIte, reduceCtorEq, Nat.reduceMod, Nat.reduceDiv, Nat.reduceBEq, resultA, resA, vI, Nat.reduceMul, Nat.reduceAdd, Nat.reduceSub, Nat.reduceEqDiff, Nat.reduceLT, Nat.reducePow, Nat.reduceLeDiff, st, Option.bind_eq_bind, Option.pure_def, List.length_nil, Int.cast_ofNat_Int, List.reverse_nil, UU, idxP, cellsAt, storeA, fillA, zerosA, putAll, optNat, sliceA, row, Int.reduceLT, Int.reduceLE, Int.reduceGT, Int.reduceGE, Int.reduceEq, Int.reduceNe, Int.reduceToNat, Int.reduceBEq, Int.reduceBNe, Nat.reduceLeDiff, Nat.reduceLT, Nat.reduceBNe, Nat.reduceGT, List.drop_nil, List.take_nil, Option.isSome_none, Int.ofNat_one, Int.ofNat_zero]
        obtain ⟨R', q⟩ := hq [⟨0, [yv, .int .i64 dy]⟩]
        obtain ⟨fr, H', q2, q3⟩ := T8_2 (Y := Y) (R := R') ht hs hok iw.pts b1 hr hy hyl
        simp only [SS, insA, wantedA, Opd.ev, putA, binA, eqbA, unA, fldA, partA, reduceIte, reduceCtorEq, Nat.reduceMod, Nat.reduceDiv, Nat.reduceBEq, resultA, resA, vI, Nat.reduceMul, Nat.reduceAdd, Nat.reduceSub, Nat.reduceEqDiff, Nat.reduceLT, Nat.reducePow, Nat.reduceLeDiff, st, Option.bind_eq_bind, Option.pure_def, List.length_nil, Int.cast_ofNat_Int, List.reverse_nil] at q2
        simp only [q, SS, insA, wantedA, Opd.ev, putA, binA, eqbA, unA, fldA, partA, reduceIte, reduceCtorEq, Nat.reduceMod, Nat.reduceDiv, Nat.reduceBEq, resultA, resA, vI, Nat.reduceMul, Nat.reduceAdd, Nat.reduceSub, Nat.reduceEqDiff, Nat.reduceLT, Nat.reducePow, Nat.reduceLeDiff, st, Option.bind_eq_bind, Option.pure_def, List.length_nil, Int.cast_ofNat_Int, List.reverse_nil]
        rw [q2]
        simp only [endX, resultA, resA, q3]
        rfl
      cases hay : askS t [(ys, dy)]
      · simp only [hay, Bool.false_and, err, Bool.false_eq_true, if_false] at k25
        exact key _ _ (.inl rfl) k25
      · simp only [hay, Bool.true_and, err, if_true] at k25
        exact key _ _ (.inr ⟨rfl, hay, rfl⟩) k25
    · rw [decide_eq_false hok] at kt
      simp only [SS, insA, wantedA, Opd.ev, putA, binA, eqbA, unA, fldA, partA, reduceIte, reduceCtorEq, Nat.reduceMod, Nat.reduceDiv, Nat.reduceBEq, resultA, resA, vI, Nat.reduceMul, Nat.reduceAdd, Nat.reduceSub, Nat.reduceEqDiff, Nat.reduceLT, Nat.reducePow, Nat.reduceLeDiff, st, Option.bind_eq_bind, Option.pure_def, List.length_nil, Int.cast_ofNat_Int, List.reverse_nil] at f1 kt
      simp only [F8B, SS, insA, wantedA, Opd.ev, putA, binA, eqbA, unA, fldA, partA, reduceIte, reduceCtorEq, Nat.reduceMod, Nat.reduceDiv, Nat.reduceBEq, resultA, resA, vI, Nat.reduceMul, Nat.reduceAdd, Nat.reduceSub, Nat.reduceEqDiff, Nat.reduceLT, Nat.reducePow, Nat.reduceLeDiff, st, Option.bind_eq_bind, Option.pure_def, List.length_nil, Int.cast_ofNat_Int, List.reverse_nil, UU, idxP, cellsAt, storeA, fillA, zerosA, putAll, optNat, sliceA, row, Int.reduceLT, Int.reduceLE, Int.reduceGT, Int.reduceGE, Int.reduceEq, Int.reduceNe, Int.reduceToNat, Int.reduceBEq, Int.reduceBNe, Nat.reduceLeDiff, Nat.reduceLT, Nat.reduceBNe, Nat.reduceGT, List.drop_nil, List.take_nil, Option.isSome_none, Int.ofNat_one, Int.ofNat_zero, o1, o2, o3, ht.snap, hy.snap, f1, kt, ha]
  · have f2 := fun H => freeX_up (Y := Y) E2_up ((f H).2 hf)
    simp only [SS, insA, wantedA, Opd.ev, putA, binA, eqbA, unA, fldA, partA, reduceIte, reduceCtorEq, Nat.reduceMod, Nat.reduceDiv, Nat.reduceBEq, resultA, resA, vI, Nat.reduceMul, Nat.reduceAdd, Nat.reduceSub, Nat.reduceEqDiff, Nat.reduceLT, Nat.reducePow, Nat.reduceLeDiff, st, Option.bind_eq_bind, Option.pure_def, List.length_nil, Int.cast_ofNat_Int, List.reverse_nil] at f2
    simp only [F8B, SS, insA, wantedA, Opd.ev, putA, binA, eqbA, unA, fldA, partA, reduceIte, reduceCtorEq, Nat.reduceMod, Nat.reduceDiv, Nat.reduceBEq, resultA, resA, vI, Nat.reduceMul, Nat.reduceAdd, Nat.reduceSub, Nat.reduceEqDiff, Nat.reduceLT, Nat.reducePow, Nat.reduceLeDiff, st, Option.bind_eq_bind, Option.pure_def, List.length_nil, Int.cast_ofNat_Int, List.reverse_nil, UU, idxP, cellsAt, storeA, fillA, zerosA, putAll, optNat, sliceA, row, Int.reduceLT, Int.reduceLE, Int.reduceGT, Int.reduceGE, Int.reduceEq, Int.reduceNe, Int.reduceToNat, Int.reduceBEq, Int.reduceBNe, Nat.reduceLeDiff, Nat.reduceLT, Nat.reduceBNe, Nat.reduceGT, List.drop_nil, List.take_nil, Option.isSome_none, Int.ofNat_one, Int.ofNat_zero, o1, o2, o3, ht.snap, hy.snap, f2, ha]
end
end Go.X
