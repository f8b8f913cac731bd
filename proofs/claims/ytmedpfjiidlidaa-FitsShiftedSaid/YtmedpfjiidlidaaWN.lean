import Derived.Test.YtmedpfjiidlidaaWB
import Derived.Test.YtmedpfjiidlidaaXY
import Derived.Test.YtmedpfjiidlidaaWE
import Derived.Test.YtmedpfjiidlidaaXH2
import Derived.Test.YtmedpfjiidlidaaZH
import Derived.Test.YtmedpfjiidlidaaYC
/-! What lasts is Resting of its fashions (plain laws). -/
set_option linter.unusedSimpArgs false
set_option linter.unusedVariables false
set_option maxHeartbeats 2000000
set_option maxRecDepth 10000
namespace Go.X
open Go Go.RowKit

theorem gcdL_nonneg : ∀ {l : List Int} {g : Int}, 0 ≤ g → 0 ≤ gcdL g l
  | [], g, h => h
  | x :: l, g, _ => gcdL_nonneg (l := l) (by omega)

theorem gcdL_divides : ∀ {l : List Int} {g : Int}, gcdL g l ∣ g ∧ ∀ x ∈ l, gcdL g l ∣ x
  | [], g => ⟨Int.dvd_refl _, fun x hx => by simp at hx⟩
  | x :: l, g => by
    obtain ⟨h1, h2⟩ := gcdL_divides (l := l) (g := (Int.gcd g x : Int))
    have e : gcdL g (x :: l) = gcdL (Int.gcd g x : Int) l := rfl
    rw [e]
    refine ⟨Int.dvd_trans h1 (Int.gcd_dvd_left ..), fun y hy => ?_⟩
    rcases List.mem_cons.1 hy with rfl | hy
    · exact Int.dvd_trans h1 (Int.gcd_dvd_right ..)
    · exact h2 y hy

theorem sumL_dvd {m : Int} : ∀ {l : List Int}, (∀ x ∈ l, m ∣ x) → m ∣ sumL l
  | [], _ => ⟨0, by simp [sumL]⟩
  | x :: l, h => by
    have h1 := sumL_dvd (l := l) fun y hy => h y (List.mem_cons_of_mem _ hy)
    have h2 := h x (by simp)
    simp only [sumL, List.foldr_cons] at h1 ⊢
    exact Int.dvd_add h2 h1

theorem gcd_zero_one {ys : List Int} {dy : Int} (hs : sumL ys = dy) (g : gcdL dy ys = 1) : gcdL 0 ys = 1 := by
  have h1 : gcdL 0 ys ∣ gcdL dy ys * 1 := gcdL_dvd (by
      have := sumL_dvd (m := gcdL 0 ys) (l := ys) (gcdL_divides (l := ys) (g := 0)).2
      rw [hs] at this; simpa using this) (fun x hx => by simpa using (gcdL_divides (l := ys) (g := 0)).2 x hx)
  rw [g] at h1
  have h2 : 0 ≤ gcdL 0 ys := gcdL_nonneg (by omega)
  have := Int.le_of_dvd (by omega) h1
  rcases Int.lt_or_le 0 (gcdL 0 ys) with h | h
  · omega
  · have e : gcdL 0 ys = 0 := by omega
    rw [e] at h1
    obtain ⟨k, hk⟩ := h1
    omega

theorem gcdL_scale {c : Int} : ∀ {l : List Int} {g : Int}, 0 ≤ g → gcdL (g * (c.natAbs : Int)) (l.map (· * c)) = gcdL g l * (c.natAbs : Int)
  | [], g, _ => rfl
  | x :: l, g, hg => by
    have e : (Int.gcd (g * (c.natAbs : Int)) (x * c) : Int) = (Int.gcd g x : Int) * (c.natAbs : Int) := by
      have : Int.gcd (g * (c.natAbs : Int)) (x * c) = Int.gcd g x * c.natAbs := by
        simp only [Int.gcd, Int.natAbs_mul, Int.natAbs_natCast]
        exact Nat.gcd_mul_right _ _ _
      rw [this]; simp
    show gcdL (Int.gcd (g * (c.natAbs : Int)) (x * c) : Int) (l.map (· * c)) = gcdL (Int.gcd g x : Int) l * (c.natAbs : Int)
    rw [e]
    exact gcdL_scale (by omega)

theorem sumL_scale {c : Int} : ∀ {l : List Int}, sumL (l.map (· * c)) = sumL l * c
  | [] => by simp [sumL]
  | x :: l => by
    have := sumL_scale (c := c) (l := l)
    simp only [sumL, List.map_cons, List.foldr_cons] at this ⊢
    rw [this, Int.add_mul]

theorem fair_self {set : Nat} {c : Int} (hc : c ≠ 0) : ∀ {ys : List Int} {i : Nat}, (∀ k (hk : k < ys.length), decide (ys[k] > 0) = bit set (i + k)) → fairL set c i (ys.map (· * c)) = true
  | [], i, _ => rfl
  | y :: ys, i, h => by
    have h0 := h 0 (by simp)
    have h1 := fair_self (ys := ys) (i := i + 1) hc fun k hk => by
      have := h (k + 1) (by simpa using hk)
      rw [show i + 1 + k = i + (k + 1) by omega]; simpa using this
    simp only [List.map_cons, fairL, Bool.and_eq_true, h1, and_true, Int.mul_tdiv_cancel _ hc]
    simpa using h0

/-- Numbers in the ratio of a mixture give this mixture. -/
theorem rest_of_prop {t : List (List Int)} {ys : List Int} {dy : Int} (ha : askS t [(ys, dy)] = true) (hl : (numsT t (fashS ys)).length = ys.length) (hS : sumL (numsT t (fashS ys)) ≠ 0)
    (hp : ∀ i (h1 : i < (numsT t (fashS ys)).length) (h2 : i < ys.length), (numsT t (fashS ys))[i] * dy = ys[i] * sumL (numsT t (fashS ys))) : restS t (fashS ys) = some (ys, dy) := by
  obtain ⟨hok, ly, d1, d2, hnn, hs, hg⟩ := mix_facts ha
  have hn := hok.2.1
  unfold restS
  simp only
  generalize hl' : numsT t (fashS ys) = l at *
  obtain ⟨c, hc⟩ : dy ∣ sumL l := by
    have : dy ∣ gcdL dy ys * sumL l := gcdL_dvd ⟨sumL l, rfl⟩ fun y hy => by
      obtain ⟨i, hi, rfl⟩ := List.getElem_of_mem hy
      exact ⟨l[i]'(by omega), by rw [← hp i (by omega) hi, Int.mul_comm]⟩
    rwa [hg, Int.one_mul] at this
  have hc0 : c ≠ 0 := by rintro rfl; simp at hc; exact hS hc
  have hlc : l = ys.map (· * c) := by
    refine List.ext_getElem (by simpa using hl) fun i h1 h2 => ?_
    have := hp i h1 (by omega)
    rw [hc] at this
    simp only [List.getElem_map]
    have e : ys[i]'(by omega) * (dy * c) = ys[i]'(by omega) * c * dy := by grind
    rw [e] at this
    exact Int.eq_of_mul_eq_mul_right (by omega) this
  have hgl : gcdL 0 l = (c.natAbs : Int) := by
    have := gcdL_scale (c := c) (l := ys) (g := 0) (by omega)
    rw [Int.zero_mul, gcd_zero_one hs hg, Int.one_mul] at this
    rw [hlc]; exact this
  have hd : divS l = c := by
    unfold divS
    rw [hgl, hc]
    rcases Int.lt_or_le c 0 with h | h
    · have : dy * c < 0 := Int.mul_neg_of_pos_of_neg (by omega) h
      rw [if_pos this]; omega
    · have : ¬ dy * c < 0 := by have := Int.mul_nonneg (show 0 ≤ dy by omega) h; omega
      rw [if_neg this]; omega
  have hfair : fairL (fashS ys) (divS l) 0 l = true := by
    rw [hd, hlc]
    refine fair_self hc0 fun k hk => ?_
    rw [Nat.zero_add]
    exact (bit_set (p := fun x => decide (x > 0)) (by omega) hk).symm
  rw [if_pos ⟨hS, hfair⟩, hd]
  have e1 : l.map (fun x => x.tdiv c) = ys := by
    rw [hlc, List.map_map]
    have : ((fun x => x.tdiv c) ∘ fun x : Int => x * c) = id := by funext x; simp [Int.mul_tdiv_cancel _ hc0]
    rw [this, List.map_id]
  rw [e1, hc, Int.mul_tdiv_cancel _ hc0]
end Go.X

/-! What lasts is Resting of its fashions (plain laws). -/
set_option linter.unusedSimpArgs false
set_option linter.unusedVariables false
set_option maxHeartbeats 2000000
set_option maxRecDepth 10000
namespace Go.X
open Go Go.RowKit

/-- The form along the way to a fashion alone. -/
theorem ess_unit {t : List (List Int)} {ys : List Int} {dy : Int} (ha : askS t [(ys, dy)] = true) (hL : lastsP t ys = true) {i : Nat} (hi : i < t.length) (hpos : ys.getD i 0 > 0) (hne : ys ≠ unit t.length i) :
    gainS t (diffL ys (unit t.length i) dy 1) (diffL ys (unit t.length i) dy 1) < 0 := by
  obtain ⟨hok, ly, d1, d2, hnn, hs, hg⟩ := mix_facts ha
  have hn := hok.2.1
  refine ess ha (ask_alone hok hi) hL ?_ (fun h => hne h.2)
  have hb8 : bestS t ys < 8 := Nat.lt_of_lt_of_le bestS_lt (Nat.pow_le_pow_right (by decide) hn (n := 2))
  rw [unit_fash hn hi]
  refine sub_one hb8 (by omega) ?_
  have h1 := lasts_rest hL
  have ho : fashS ys < 8 := Nat.lt_of_lt_of_le (fashS_lt ly) (Nat.pow_le_pow_right (by decide) hn (n := 2))
  refine (sub_bits ho hb8).1 h1 i (by omega) ?_
  have hi2 : i < ys.length := by omega
  have := bit_set (p := fun x => decide (x > 0)) (l := ys) (by omega) hi2
  rw [List.getD_eq_getElem?_getD, List.getElem?_eq_getElem hi2, Option.getD_some] at hpos
  show bit (setS (fun x => decide (x > 0)) ys 0) i = true
  rw [this]; simpa using hpos

theorem sq_form {A x : Int} (h : A * (x * x) < 0) : A < 0 := by
  rcases Int.lt_or_le A 0 with h1 | h1
  · exact h1
  · have := Int.mul_nonneg h1 (sq_nonneg x); omega

theorem rest_of_lasts1 {a y dy : Int} (ha : askS [[a]] [([y], dy)] = true) : restS [[a]] (fashS [y]) = some ([y], dy) := by
  obtain ⟨hok, ly, d1, d2, hnn, hs, hg⟩ := mix_facts ha
  simp only [sumL, List.foldr_cons, List.foldr_nil, Int.add_zero] at hs
  subst hs
  have hf : fashS [y] = 1 := by simp only [fashS, setS, show decide (y > 0) = true by simp; omega]; rfl
  have e : numsT [[a]] 1 = [1] := by kernel_rfl
  have hp := rest_of_prop ha
  rw [hf, e] at hp
  rw [hf]
  refine hp rfl (by decide) fun i h1 h2 => ?_
  simp only [List.length_cons, List.length_nil] at h1
  obtain rfl : i = 0 := by omega
  simp [sumL]

theorem fash_two {x y : Int} : fashS [x, y] = (if x > 0 then 1 else 0) + (if y > 0 then 2 else 0) := by
  by_cases h1 : x > 0 <;> by_cases h2 : y > 0 <;> simp [fashS, setS, h1, h2]

theorem rest_of_lasts2 {a b c d x y dy : Int} (ha : askS [[a, b], [c, d]] [([x, y], dy)] = true) (hL : lastsP [[a, b], [c, d]] [x, y] = true) : restS [[a, b], [c, d]] (fashS [x, y]) = some ([x, y], dy) := by
  obtain ⟨hok, ly, d1, d2, hnn, hs, hg⟩ := mix_facts ha
  have hx := hnn x (by simp)
  have hy := hnn y (by simp)
  have hr := (rest_iff hok ly hnn).1 (lasts_rest hL)
  have r0 := hr 0 (by simp) (by simp [gains])
  have r1 := hr 1 (by simp) (by simp [gains])
  simp only [gains, List.map_cons, List.map_nil, dotS, List.getElem_cons_zero, List.getElem_cons_succ, Int.add_zero] at r0 r1
  generalize maxI [a * x + b * y, c * x + d * y] = M at r0 r1
  simp only [sumL, List.foldr_cons, List.foldr_nil, Int.add_zero] at hs
  have hp := rest_of_prop ha
  rw [fash_two] at hp ⊢
  by_cases h1 : x > 0
  · by_cases h2 : y > 0
    · have e : numsT [[a, b], [c, d]] 3 = [b - d, c - a] := nums_two
      simp only [h1, h2, if_true, Nat.reduceAdd, e] at hp ⊢
      have q0 : a * x + b * y = M := r0.resolve_left (by omega)
      have q1 : c * x + d * y = M := r1.resolve_left (by omega)
      have hne : [x, y] ≠ unit [[a, b], [c, d]].length 0 := by
        intro h
        have h3 := congrArg (fun l => l.getD 1 0) h
        have h4 : y = 0 := h3
        omega
      have hu := ess_unit ha hL (i := 0) (by simp) (by simpa using h1) hne
      have hf : gainS [[a, b], [c, d]] (diffL [x, y] (unit 2 0) dy 1) (diffL [x, y] (unit 2 0) dy 1) = (a - b - c + d) * (y * y) := by
        rw [← hs]
        simp only [diffL, unit, List.replicate, List.set_cons_zero, List.zipWith_cons_cons, List.zipWith_nil_left, gainS, dotX]; grind
      have hu' : gainS [[a, b], [c, d]] (diffL [x, y] (unit 2 0) dy 1) (diffL [x, y] (unit 2 0) dy 1) < 0 := hu
      rw [hf] at hu'
      have hneg := sq_form hu'
      refine hp rfl (by simp only [sumL, List.foldr_cons, List.foldr_nil]; omega) fun i i1 i2 => ?_
      simp only [List.length_cons, List.length_nil] at i1
      have heq : (b - d) * y = (c - a) * x := by grind
      rcases (show i = 0 ∨ i = 1 by omega) with rfl | rfl
      · simp only [List.getElem_cons_zero, sumL, List.foldr_cons, List.foldr_nil, Int.add_zero]
        rw [← hs]; grind
      · simp only [List.getElem_cons_zero, List.getElem_cons_succ, sumL, List.foldr_cons, List.foldr_nil, Int.add_zero]
        rw [← hs]; grind
    · obtain rfl : y = 0 := by omega
      have e : numsT [[a, b], [c, d]] 1 = [1, 0] := by kernel_rfl
      simp only [h1, h2, if_true, if_false, Nat.reduceAdd, e] at hp ⊢
      refine hp rfl (by decide) fun i i1 i2 => ?_
      simp only [List.length_cons, List.length_nil] at i1
      rcases (show i = 0 ∨ i = 1 by omega) with rfl | rfl
      · simp [sumL]; omega
      · simp [sumL]
  · obtain rfl : x = 0 := by omega
    have h2 : y > 0 := by omega
    have e : numsT [[a, b], [c, d]] 2 = [0, 1] := by kernel_rfl
    simp only [h1, h2, if_true, if_false, Nat.reduceAdd, e] at hp ⊢
    refine hp rfl (by decide) fun i i1 i2 => ?_
    simp only [List.length_cons, List.length_nil] at i1
    rcases (show i = 0 ∨ i = 1 by omega) with rfl | rfl
    · simp [sumL]
    · simp [sumL]; omega
end Go.X

/-! What lasts is Resting of its fashions: three fashions (plain laws). -/
set_option linter.unusedSimpArgs false
set_option linter.unusedVariables false
set_option maxHeartbeats 4000000
set_option maxRecDepth 10000
namespace Go.X
open Go Go.RowKit

theorem way012 {a b c d e f g h i : Int} (hlast : true = tailP [[a, b, c], [d, e, f], [g, h, i]] 7 0 [1, 2]) {z0 z1 z2 : Int} (hz : z0 + z1 + z2 = 0) (hne : z1 ≠ 0 ∨ z2 ≠ 0)
    (hu : (a - d) * z0 + (b - e) * z1 + (c - f) * z2 = 0) (hv : (a - g) * z0 + (b - h) * z1 + (c - i) * z2 = 0) : False := by
  have e1 : wayS [[a, b, c], [d, e, f], [g, h, i]] 0 1 1 = (e - d - b + a) + (e - d - b + a) := rfl
  have e2 : wayS [[a, b, c], [d, e, f], [g, h, i]] 0 1 2 = (f - d - c + a) + (h - g - b + a) := rfl
  have e3 : wayS [[a, b, c], [d, e, f], [g, h, i]] 0 2 2 = (i - g - c + a) + (i - g - c + a) := rfl
  simp only [tailP] at hlast
  rw [e1, e2, e3] at hlast
  split at hlast
  · cases hlast
  · rename_i hn
    have hal : aloneS 7 = false := by decide
    rw [hal, Bool.false_and, Bool.false_or] at hlast
    have hform := form_neg2 (by omega) (by omega) (of_decide_eq_true hlast.symm) hne
    have : z0 = -z1 - z2 := by omega
    subst this
    have : (e - d - b + a + (e - d - b + a)) * (z1 * z1) + 2 * ((f - d - c + a + (h - g - b + a)) * (z1 * z2)) + (i - g - c + a + (i - g - c + a)) * (z2 * z2) = 0 := by grind
    omega

theorem fash_three {x y z : Int} : fashS [x, y, z] = (if x > 0 then 1 else 0) + ((if y > 0 then 2 else 0) + (if z > 0 then 4 else 0)) := by
  by_cases h1 : x > 0 <;> by_cases h2 : y > 0 <;> by_cases h3 : z > 0 <;> simp [fashS, setS, h1, h2, h3]

theorem rest_of_lasts3 {a b c d e f g h i x y z dy : Int} (ha : askS [[a, b, c], [d, e, f], [g, h, i]] [([x, y, z], dy)] = true) (hL : lastsP [[a, b, c], [d, e, f], [g, h, i]] [x, y, z] = true) :
    restS [[a, b, c], [d, e, f], [g, h, i]] (fashS [x, y, z]) = some ([x, y, z], dy) := by
  obtain ⟨hok, ly, d1, d2, hnn, hs, hg⟩ := mix_facts ha
  have hx := hnn x (by simp)
  have hy := hnn y (by simp)
  have hz := hnn z (by simp)
  have hr := (rest_iff hok ly hnn).1 (lasts_rest hL)
  have r0 := hr 0 (by simp) (by simp [gains])
  have r1 := hr 1 (by simp) (by simp [gains])
  have r2 := hr 2 (by simp) (by simp [gains])
  simp only [gains, List.map_cons, List.map_nil, dotS, List.getElem_cons_zero, List.getElem_cons_succ, Int.add_zero] at r0 r1 r2
  generalize maxI [a * x + (b * y + c * z), d * x + (e * y + f * z), g * x + (h * y + i * z)] = M at r0 r1 r2
  simp only [sumL, List.foldr_cons, List.foldr_nil, Int.add_zero] at hs
  have hp := rest_of_prop ha
  have hu := fun (k : Nat) (hk : k < 3) (hpos : [x, y, z].getD k 0 > 0) (hne : [x, y, z] ≠ unit 3 k) => ess_unit ha hL (i := k) hk hpos hne
  have hlast := fun b' (hB : bestS [[a, b, c], [d, e, f], [g, h, i]] [x, y, z] = b') => lasts_at3 (t := [[a, b, c], [d, e, f], [g, h, i]]) (ys := [x, y, z]) rfl rfl hB
  rw [fash_three] at hp hlast ⊢
  have n1 : numsT [[a, b, c], [d, e, f], [g, h, i]] 1 = [1, 0, 0] := by kernel_rfl
  have n2 : numsT [[a, b, c], [d, e, f], [g, h, i]] 2 = [0, 1, 0] := by kernel_rfl
  have n4 : numsT [[a, b, c], [d, e, f], [g, h, i]] 4 = [0, 0, 1] := by kernel_rfl
  have n3 : numsT [[a, b, c], [d, e, f], [g, h, i]] 3 = [b - e, d - a, 0] := by kernel_rfl
  have n5 : numsT [[a, b, c], [d, e, f], [g, h, i]] 5 = [c - i, 0, g - a] := by kernel_rfl
  have n6 : numsT [[a, b, c], [d, e, f], [g, h, i]] 6 = [0, f - i, h - e] := by kernel_rfl
  have n7 : numsT [[a, b, c], [d, e, f], [g, h, i]] 7 = [(b - e) * (c - i) - (c - f) * (b - h), (c - f) * (a - g) - (a - d) * (c - i), (a - d) * (b - h) - (b - e) * (a - g)] := by kernel_rfl
  have three : ∀ k : Nat, k < 3 → k = 0 ∨ k = 1 ∨ k = 2 := by omega
  by_cases h1 : x > 0
  · by_cases h2 : y > 0
    · by_cases h3 : z > 0
      · -- all three
        simp only [h1, h2, h3, if_true, Nat.reduceAdd, n7] at hp hlast ⊢
        have q0 : a * x + (b * y + c * z) = M := r0.resolve_left (by omega)
        have q1 : d * x + (e * y + f * z) = M := r1.resolve_left (by omega)
        have q2 : g * x + (h * y + i * z) = M := r2.resolve_left (by omega)
        have hu1 : (a - d) * x + (b - e) * y + (c - f) * z = 0 := by grind
        have hv1 : (a - g) * x + (b - h) * y + (c - i) * z = 0 := by grind
        have hb8 : bestS [[a, b, c], [d, e, f], [g, h, i]] [x, y, z] < 8 := bestS_lt (t := [[a, b, c], [d, e, f], [g, h, i]])
        have hl := hlast _ rfl
        rw [hL] at hl
        generalize bestS [[a, b, c], [d, e, f], [g, h, i]] [x, y, z] = b' at hl hb8
        have hl7 : true = tailP [[a, b, c], [d, e, f], [g, h, i]] 7 0 [1, 2] := by
          rcases (show b' = 0 ∨ b' = 1 ∨ b' = 2 ∨ b' = 3 ∨ b' = 4 ∨ b' = 5 ∨ b' = 6 ∨ b' = 7 by omega) with rfl | rfl | rfl | rfl | rfl | rfl | rfl | rfl
          · exact absurd hl (by simp [show subS 7 0 = false from rfl])
          · exact absurd hl (by simp [show subS 7 1 = false from rfl])
          · exact absurd hl (by simp [show subS 7 2 = false from rfl])
          · exact absurd hl (by simp [show subS 7 3 = false from rfl])
          · exact absurd hl (by simp [show subS 7 4 = false from rfl])
          · exact absurd hl (by simp [show subS 7 5 = false from rfl])
          · exact absurd hl (by simp [show subS 7 6 = false from rfl])
          · exact hl
        have w := fun z0 z1 z2 => way012 hl7 (z0 := z0) (z1 := z1) (z2 := z2)
        clear hlast hl hl7 hr r0 r1 r2 hu ha hL hok hnn hg
        generalize hA : a - d = A at *
        generalize hB : b - e = B at *
        generalize hC : c - f = C at *
        generalize hD : a - g = D at *
        generalize hE : b - h = E at *
        generalize hF : c - i = F at *
        refine hp rfl (fun hS => ?_) fun k i1 i2 => ?_
        · simp only [sumL, List.foldr_cons, List.foldr_nil, Int.add_zero] at hS
          -- along u and across
          have c1 : ¬ (C - A ≠ 0 ∨ A - B ≠ 0) := fun hne => w (B - C) (C - A) (A - B) (by omega) hne (by grind) (by grind)
          have c2 : ¬ (F - D ≠ 0 ∨ D - E ≠ 0) := fun hne => w (E - F) (F - D) (D - E) (by omega) hne (by grind) (by grind)
          obtain rfl : C = A := by omega
          obtain rfl : B = C := by omega
          obtain rfl : F = D := by omega
          obtain rfl : E = F := by omega
          have z1 : B * dy = 0 := by rw [← hs]; grind
          have z2 : E * dy = 0 := by rw [← hs]; grind
          have y1 : B = 0 := (Int.mul_eq_zero.1 z1).resolve_right (by omega)
          have y2 : E = 0 := (Int.mul_eq_zero.1 z2).resolve_right (by omega)
          exact w 0 1 (-1) (by omega) (by omega) (by rw [y1]; omega) (by rw [y2]; omega)
        · simp only [List.length_cons, List.length_nil] at i1
          rcases three k i1 with rfl | rfl | rfl
          · simp only [List.getElem_cons_zero, List.getElem_cons_succ, sumL, List.foldr_cons, List.foldr_nil, Int.add_zero]
            rw [← hs]; grind
          · simp only [List.getElem_cons_zero, List.getElem_cons_succ, sumL, List.foldr_cons, List.foldr_nil, Int.add_zero]
            rw [← hs]; grind
          · simp only [List.getElem_cons_zero, List.getElem_cons_succ, sumL, List.foldr_cons, List.foldr_nil, Int.add_zero]
            rw [← hs]; grind
      · obtain rfl : z = 0 := by omega
        simp only [h1, h2, h3, if_true, if_false, Nat.reduceAdd, n3] at hp ⊢
        have q0 : a * x + (b * y + c * 0) = M := r0.resolve_left (by omega)
        have q1 : d * x + (e * y + f * 0) = M := r1.resolve_left (by omega)
        have hu' : gainS [[a, b, c], [d, e, f], [g, h, i]] (diffL [x, y, 0] (unit 3 0) dy 1) (diffL [x, y, 0] (unit 3 0) dy 1) < 0 := hu 0 (by omega) (by simpa using h1) (fun h => by have h4 : y = 0 := congrArg (fun l => l.getD 1 0) h; omega)
        have hf : gainS [[a, b, c], [d, e, f], [g, h, i]] (diffL [x, y, 0] (unit 3 0) dy 1) (diffL [x, y, 0] (unit 3 0) dy 1) = (a - b - d + e) * (y * y) := by
          rw [← hs]
          simp only [diffL, unit, List.replicate, List.set_cons_zero, List.zipWith_cons_cons, List.zipWith_nil_left, gainS, dotX]; grind
        rw [hf] at hu'
        have hneg := sq_form hu'
        refine hp rfl (by simp only [sumL, List.foldr_cons, List.foldr_nil]; omega) fun k i1 i2 => ?_
        simp only [List.length_cons, List.length_nil] at i1
        rcases three k i1 with rfl | rfl | rfl <;> simp only [List.getElem_cons_zero, List.getElem_cons_succ, sumL, List.foldr_cons, List.foldr_nil, Int.add_zero] <;> rw [← hs] <;> grind
    · obtain rfl : y = 0 := by omega
      by_cases h3 : z > 0
      · simp only [h1, h2, h3, if_true, if_false, Nat.reduceAdd, n5] at hp ⊢
        have q0 : a * x + (b * 0 + c * z) = M := r0.resolve_left (by omega)
        have q2 : g * x + (h * 0 + i * z) = M := r2.resolve_left (by omega)
        have hu' : gainS [[a, b, c], [d, e, f], [g, h, i]] (diffL [x, 0, z] (unit 3 0) dy 1) (diffL [x, 0, z] (unit 3 0) dy 1) < 0 := hu 0 (by omega) (by simpa using h1) (fun h => by have h4 : z = 0 := congrArg (fun l => l.getD 2 0) h; omega)
        have hf : gainS [[a, b, c], [d, e, f], [g, h, i]] (diffL [x, 0, z] (unit 3 0) dy 1) (diffL [x, 0, z] (unit 3 0) dy 1) = (a - c - g + i) * (z * z) := by
          rw [← hs]
          simp only [diffL, unit, List.replicate, List.set_cons_zero, List.zipWith_cons_cons, List.zipWith_nil_left, gainS, dotX]; grind
        rw [hf] at hu'
        have hneg := sq_form hu'
        refine hp rfl (by simp only [sumL, List.foldr_cons, List.foldr_nil]; omega) fun k i1 i2 => ?_
        simp only [List.length_cons, List.length_nil] at i1
        rcases three k i1 with rfl | rfl | rfl <;> simp only [List.getElem_cons_zero, List.getElem_cons_succ, sumL, List.foldr_cons, List.foldr_nil, Int.add_zero] <;> rw [← hs] <;> grind
      · obtain rfl : z = 0 := by omega
        simp only [h1, h2, h3, if_true, if_false, Nat.reduceAdd, n1] at hp ⊢
        refine hp rfl (by decide) fun k i1 i2 => ?_
        simp only [List.length_cons, List.length_nil] at i1
        rcases three k i1 with rfl | rfl | rfl <;> simp [sumL] <;> omega
  · obtain rfl : x = 0 := by omega
    by_cases h2 : y > 0
    · by_cases h3 : z > 0
      · simp only [h1, h2, h3, if_true, if_false, Nat.reduceAdd, n6] at hp ⊢
        have q1 : d * 0 + (e * y + f * z) = M := r1.resolve_left (by omega)
        have q2 : g * 0 + (h * y + i * z) = M := r2.resolve_left (by omega)
        have hu' : gainS [[a, b, c], [d, e, f], [g, h, i]] (diffL [0, y, z] (unit 3 1) dy 1) (diffL [0, y, z] (unit 3 1) dy 1) < 0 := hu 1 (by omega) (by simpa using h2) (fun h => by have h4 : z = 0 := congrArg (fun l => l.getD 2 0) h; omega)
        have hf : gainS [[a, b, c], [d, e, f], [g, h, i]] (diffL [0, y, z] (unit 3 1) dy 1) (diffL [0, y, z] (unit 3 1) dy 1) = (e - f - h + i) * (z * z) := by
          rw [← hs]
          simp only [diffL, unit, List.replicate, List.set_cons_zero, List.set_cons_succ, List.zipWith_cons_cons, List.zipWith_nil_left, gainS, dotX]; grind
        rw [hf] at hu'
        have hneg := sq_form hu'
        refine hp rfl (by simp only [sumL, List.foldr_cons, List.foldr_nil]; omega) fun k i1 i2 => ?_
        simp only [List.length_cons, List.length_nil] at i1
        rcases three k i1 with rfl | rfl | rfl <;> simp only [List.getElem_cons_zero, List.getElem_cons_succ, sumL, List.foldr_cons, List.foldr_nil, Int.add_zero] <;> rw [← hs] <;> grind
      · obtain rfl : z = 0 := by omega
        simp only [h1, h2, h3, if_true, if_false, Nat.reduceAdd, n2] at hp ⊢
        refine hp rfl (by decide) fun k i1 i2 => ?_
        simp only [List.length_cons, List.length_nil] at i1
        rcases three k i1 with rfl | rfl | rfl <;> simp [sumL] <;> omega
    · obtain rfl : y = 0 := by omega
      have h3 : z > 0 := by omega
      simp only [h1, h2, h3, if_true, if_false, Nat.reduceAdd, n4] at hp ⊢
      refine hp rfl (by decide) fun k i1 i2 => ?_
      simp only [List.length_cons, List.length_nil] at i1
      rcases three k i1 with rfl | rfl | rfl <;> simp [sumL] <;> omega

/-- What lasts is Resting of its fashions. -/
theorem rest_of_lasts {t : List (List Int)} {ys : List Int} {dy : Int} (ha : askS t [(ys, dy)] = true) (hL : lastsP t ys = true) : restS t (fashS ys) = some (ys, dy) := by
  obtain ⟨hok, ly, -⟩ := mix_facts ha
  rcases shapes hok with ⟨a, rfl⟩ | ⟨a, b', c, d, rfl⟩ | ⟨a, b', c, d, e, f, g, h, i, rfl⟩
  · match ys, ly with
    | [y], _ => exact rest_of_lasts1 ha
  · match ys, ly with
    | [x, y], _ => exact rest_of_lasts2 ha hL
  · match ys, ly with
    | [x, y, z], _ => exact rest_of_lasts3 ha hL
end Go.X

/-! What lasts: the plain law of Bishop. -/
set_option linter.unusedSimpArgs false
set_option linter.unusedVariables false
set_option maxHeartbeats 4000000
set_option maxRecDepth 10000
namespace Go.X
open Go Go.RowKit

theorem sum_bound {t : List (List Int)} {set : Nat} (hok : okTab t) (h0 : 0 < set) (hs : set < 2 ^ t.length) : -10000 ≤ sumL (numsT t set) ∧ sumL (numsT t set) ≤ 10000 := by
  have hT := hok.tame
  rcases shapes hok with ⟨a, rfl⟩ | ⟨a, b, c, d, rfl⟩ | ⟨a, b, c, d, e, f, g, h, i, rfl⟩
  · have hs : set < 2 := hs
    obtain rfl : set = 1 := by omega
    have nE : numsT [[a]] 1 = [1] := by kernel_rfl
    rw [nE]; decide
  · have hs : set < 4 := hs
    have b1 := hT [a, b] (by simp) a (by simp)
    have b2 := hT [a, b] (by simp) b (by simp)
    have b3 := hT [c, d] (by simp) c (by simp)
    have b4 := hT [c, d] (by simp) d (by simp)
    rcases (show set = 1 ∨ set = 2 ∨ set = 3 by omega) with rfl | rfl | rfl
    · have nE : numsT [[a, b], [c, d]] 1 = [1, 0] := by kernel_rfl
      rw [nE]; decide
    · have nE : numsT [[a, b], [c, d]] 2 = [0, 1] := by kernel_rfl
      rw [nE]; decide
    · have nE : numsT [[a, b], [c, d]] 3 = [b - d, c - a] := by kernel_rfl
      rw [nE]; simp only [sumL, List.foldr_cons, List.foldr_nil]; omega
  · have hs : set < 8 := hs
    have b1 := hT [a, b, c] (by simp) a (by simp)
    have b2 := hT [a, b, c] (by simp) b (by simp)
    have b3 := hT [a, b, c] (by simp) c (by simp)
    have b4 := hT [d, e, f] (by simp) d (by simp)
    have b5 := hT [d, e, f] (by simp) e (by simp)
    have b6 := hT [d, e, f] (by simp) f (by simp)
    have b7 := hT [g, h, i] (by simp) g (by simp)
    have b8 := hT [g, h, i] (by simp) h (by simp)
    have b9 := hT [g, h, i] (by simp) i (by simp)
    rcases (show set = 1 ∨ set = 2 ∨ set = 3 ∨ set = 4 ∨ set = 5 ∨ set = 6 ∨ set = 7 by omega) with rfl | rfl | rfl | rfl | rfl | rfl | rfl
    · have nE : numsT [[a, b, c], [d, e, f], [g, h, i]] 1 = [1, 0, 0] := by kernel_rfl
      rw [nE]; decide
    · have nE : numsT [[a, b, c], [d, e, f], [g, h, i]] 2 = [0, 1, 0] := by kernel_rfl
      rw [nE]; decide
    · have nE : numsT [[a, b, c], [d, e, f], [g, h, i]] 3 = [b - e, d - a, 0] := by kernel_rfl
      rw [nE]; simp only [sumL, List.foldr_cons, List.foldr_nil]; omega
    · have nE : numsT [[a, b, c], [d, e, f], [g, h, i]] 4 = [0, 0, 1] := by kernel_rfl
      rw [nE]; decide
    · have nE : numsT [[a, b, c], [d, e, f], [g, h, i]] 5 = [c - i, 0, g - a] := by kernel_rfl
      rw [nE]; simp only [sumL, List.foldr_cons, List.foldr_nil]; omega
    · have nE : numsT [[a, b, c], [d, e, f], [g, h, i]] 6 = [0, f - i, h - e] := by kernel_rfl
      rw [nE]; simp only [sumL, List.foldr_cons, List.foldr_nil]; omega
    · have nE : numsT [[a, b, c], [d, e, f], [g, h, i]] 7 = [(b - e) * (c - i) - (c - f) * (b - h), (c - f) * (a - g) - (a - d) * (c - i), (a - d) * (b - h) - (b - e) * (a - g)] := by kernel_rfl
      rw [nE]
      have p0 := mulB (A := 40) (B := 40) (a := b - e) (b := c - i) (by omega) (by omega)
      have q0 := mulB (A := 40) (B := 40) (a := c - f) (b := b - h) (by omega) (by omega)
      have p1 := mulB (A := 40) (B := 40) (a := c - f) (b := a - g) (by omega) (by omega)
      have q1 := mulB (A := 40) (B := 40) (a := a - d) (b := c - i) (by omega) (by omega)
      have p2 := mulB (A := 40) (B := 40) (a := a - d) (b := b - h) (by omega) (by omega)
      have q2 := mulB (A := 40) (B := 40) (a := b - e) (b := a - g) (by omega) (by omega)
      simp only [sumL, List.foldr_cons, List.foldr_nil]; omega

theorem sum_pos_all {l : List Int} (h : ∀ x ∈ l, 0 ≤ x) : 0 ≤ sumL l ∧ ∀ x ∈ l, x ≤ sumL l := by
  induction l with
  | nil => simp [sumL]
  | cons y l ih =>
    obtain ⟨h1, h2⟩ := ih fun x hx => h x (List.mem_cons_of_mem _ hx)
    have h3 := h y (by simp)
    have e : sumL (y :: l) = y + sumL l := rfl
    rw [e]
    refine ⟨by omega, fun x hx => ?_⟩
    rcases List.mem_cons.1 hx with rfl | hx
    · omega
    · have := h2 x hx; omega

theorem min_nonneg : ∀ {l : List Int}, minI l ≥ 0 → ∀ x ∈ l, 0 ≤ x := by
  intro l h x hx
  match l, hx with
  | y :: l, hx =>
    have key : ∀ (l : List Int) (a : Int), 0 ≤ l.foldl min a → 0 ≤ a ∧ ∀ x ∈ l, 0 ≤ x := by
      intro l
      induction l with
      | nil => intro a h; exact ⟨h, fun x hx => by simp at hx⟩
      | cons z l ih =>
        intro a h
        obtain ⟨h1, h2⟩ := ih (min a z) h
        refine ⟨by omega, fun x hx => ?_⟩
        rcases List.mem_cons.1 hx with rfl | hx
        · omega
        · exact h2 x hx
    obtain ⟨h1, h2⟩ := key l y h
    rcases List.mem_cons.1 hx with rfl | hx
    · exact h1
    · exact h2 x hx

/-- What Resting returns is a mixture. -/
theorem rest_mix {t : List (List Int)} {set : Nat} {x : List Int} {d : Int} (hok : okTab t) (h0 : 0 < set) (hs : set < 2 ^ t.length) (h : restS t set = some (x, d)) : mixS t.length x d = true := by
  obtain ⟨n1, n2, n3⟩ := nums_ok hok h0 hs
  have hB := sum_bound hok h0 hs
  unfold restS at h
  simp only at h
  split at h
  · rename_i hc
    obtain ⟨rfl, rfl⟩ : _ ∧ _ := by simpa using h
    have hf := flag (divS (numsT t set)) (by rw [n1]; exact ⟨hok.1, hok.2.1⟩) h0 (by rw [n1]; exact hs) n3
    rw [hc.2] at hf
    simp only [Bool.and_eq_true, beq_iff_eq, decide_eq_true_eq] at hf
    have hnn := min_nonneg hf.1
    generalize numsT t set = l at *
    have hS := hc.1
    have hg := gcdL_nonneg (l := l) (g := 0) (by omega)
    have hdv := gcdL_divides (l := l) (g := 0)
    obtain ⟨k, hk⟩ := sumL_dvd (m := gcdL 0 l) (l := l) hdv.2
    have hG : gcdL 0 l ≠ 0 := fun h => by rw [h] at hk; simp at hk; exact hS hk
    have hcs : ∃ c, divS l = c ∧ c ≠ 0 ∧ (c.natAbs : Int) = gcdL 0 l ∧ (sumL l < 0 → c < 0) ∧ (¬ sumL l < 0 → 0 < c) := by
      refine ⟨_, rfl, ?_⟩
      unfold divS
      by_cases hn : sumL l < 0
      · rw [if_pos hn]; exact ⟨by omega, by omega, fun _ => by omega, fun h => absurd hn h⟩
      · rw [if_neg hn]; exact ⟨by omega, by omega, fun h => absurd h hn, fun _ => by omega⟩
    obtain ⟨c, hcd, hc0, hca, hcn, hcp⟩ := hcs
    rw [hcd] at hnn ⊢
    have hdc : ∀ y ∈ l, c ∣ y := fun y hy => by
      have := hdv.2 y hy
      rw [← hca] at this
      exact Int.natAbs_dvd.1 this
    have hq : l = (l.map fun y => y.tdiv c).map (· * c) := by
      rw [List.map_map]
      refine (List.map_id l).symm.trans (List.map_congr_left fun y hy => ?_)
      obtain ⟨z, rfl⟩ := hdc y hy
      simp [Int.mul_tdiv_cancel_left _ hc0, Int.mul_comm]
    have hlen : (l.map fun y => y.tdiv c).length = t.length := by simpa using n1
    generalize (l.map fun y => y.tdiv c) = q at *
    have hsum : sumL l = sumL q * c := by rw [hq]; exact sumL_scale
    have hd : (sumL l).tdiv c = sumL q := by rw [hsum, Int.mul_tdiv_cancel _ hc0]
    rw [hd]
    obtain ⟨s1, s2⟩ := sum_pos_all hnn
    have hq0 : sumL q ≠ 0 := fun h => by rw [hsum, h] at hS; simp at hS
    have hle : sumL q ≤ 10000 := by
      have h1 : (sumL l).natAbs = (sumL q).natAbs * c.natAbs := by rw [hsum, Int.natAbs_mul]
      have h2 : 1 ≤ c.natAbs := by omega
      have h3 := Nat.mul_le_mul_left (sumL q).natAbs h2
      omega
    have hgl : gcdL 0 l = gcdL 0 q * gcdL 0 l := by
      have := gcdL_scale (c := c) (l := q) (g := 0) (by omega)
      rw [Int.zero_mul, ← hq, hca] at this
      exact this
    have hg1 : gcdL 0 q = 1 := by
      have : 1 * gcdL 0 l = gcdL 0 q * gcdL 0 l := by rw [Int.one_mul]; exact hgl
      exact (Int.eq_of_mul_eq_mul_right hG this).symm
    have hgd : gcdL (sumL q) q ∣ 1 := by
      have h1 := gcdL_divides (l := q) (g := sumL q)
      have h2 : gcdL (sumL q) q ∣ gcdL 0 q * 1 := gcdL_dvd ⟨0, by simp⟩ fun y hy => by simpa using h1.2 y hy
      rwa [hg1] at h2
    have hgn := gcdL_nonneg (l := q) (g := sumL q) (show 0 ≤ sumL q from s1)
    have hg2 : gcdL (sumL q) q = 1 := by
      have := Int.le_of_dvd (by omega) hgd
      rcases Int.lt_or_le 0 (gcdL (sumL q) q) with h | h
      · omega
      · have e : gcdL (sumL q) q = 0 := by omega
        rw [e] at hgd; obtain ⟨k, hk⟩ := hgd; omega
    have : mixP t.length q (sumL q) := ⟨by have := hok.1; omega, by have := hok.2.1; omega, by omega, by omega, hle, fun y hy => ⟨hnn y hy, s2 y hy⟩, rfl, hg2⟩
    simp [mixS, this]
  · cases h

/-- What is known of what lasts, one by one. -/
structure Last (t : List (List Int)) (x : List Int × Int) (s : Nat) : Prop where
  set : fashS x.1 = s
  pos : 0 < s
  lt : s < 2 ^ t.length
  rest : restS t s = some x
  lasts : lastsP t x.1 = true
  ask : askS t [x] = true

theorem last_pick {t : List (List Int)} (hok : okTab t) {x : List Int × Int} {s : Nat} (h0 : 0 < s) (hs : s < 2 ^ t.length) (h : pickS t s = some x) : Last t x s := by
  unfold pickS at h
  cases hr : restS t s with
  | none => rw [hr] at h; cases h
  | some y =>
    rw [hr] at h
    simp only at h
    split at h
    · rename_i hl
      cases h
      obtain ⟨xs, d⟩ := x
      have hm := rest_mix hok h0 hs hr
      exact ⟨(resP_some hok h0 hs hr).2.2.1, h0, hs, hr, hl, by simp [askS, hok, hm]⟩
    · cases h

theorem lasting_mem {t : List (List Int)} (hok : okTab t) {x : List Int × Int} : x ∈ lastingS t ↔ askS t [x] = true ∧ lastsP t x.1 = true := by
  unfold lastingS
  rw [List.mem_filterMap]
  constructor
  · rintro ⟨s, h1, h2⟩
    rw [List.mem_range'_1] at h1
    have := last_pick hok (by omega) (by omega) h2
    exact ⟨this.ask, this.lasts⟩
  · rintro ⟨h1, h2⟩
    obtain ⟨xs, d⟩ := x
    have hm := (ask1 h1).2
    have hp := mix_fash hm
    have hl := (mix_facts h1).2.1
    refine ⟨fashS xs, ?_, ?_⟩
    · rw [List.mem_range'_1]
      have := fashS_lt hl
      have hp : 0 < fashS xs := hp
      omega
    · unfold pickS
      rw [rest_of_lasts h1 h2]
      simp only at h2
      simp only [h2, if_true]

theorem lasting_order {t : List (List Int)} (hok : okTab t) : (lastingS t).Pairwise fun x y => fashS x.1 < fashS y.1 := by
  unfold lastingS
  rw [List.pairwise_filterMap]
  have h1 : (List.range' 1 (2 ^ t.length - 1)).Pairwise (· < ·) := List.pairwise_lt_range'
  refine h1.imp_of_mem fun {a b} ha hb hab x hx y hy => ?_
  rw [List.mem_range'_1] at ha hb
  have e1 := (last_pick hok (by omega) (by omega) hx).set
  have e2 := (last_pick hok (by omega) (by omega) hy).set
  omega

end Go.X

/-! Bishop: the law. -/
set_option linter.unusedSimpArgs false
set_option linter.unusedVariables false
set_option maxHeartbeats 8000000
set_option maxRecDepth 10000
namespace Go.X
open Go Go.RowKit
section
variable {Y : Run} {H : Heap}

end
end Go.X

/-! Bishop: the law, joined. -/
set_option linter.unusedSimpArgs false
set_option linter.unusedVariables false
set_option maxHeartbeats 8000000
set_option maxRecDepth 10000
namespace Go.X
open Go Go.RowKit
section
variable {Y : Run} {H : Heap}

end
end Go.X
