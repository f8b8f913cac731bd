import Derived.Test.YtdkgicdbjemalaaDoorSA0
import Derived.Test.YtdkgicdbjemalaaDoorSA1
import Derived.Test.YtdkgicdbjemalaaDoorSA2
import Derived.Test.YtdkgicdbjemalaaDoorSA3
import Derived.Test.YtdkgicdbjemalaaDoorSA4
import Derived.Test.YtdkgicdbjemalaaDoorSA5
import Derived.Test.YtdkgicdbjemalaaDoorSA6
import Derived.Test.YtdkgicdbjemalaaDoorSA7
import Derived.Test.YtdkgicdbjemalaaDoorRC
import Derived.Test.YtdkgicdbjemalaaDoorMO
/-! Tones: Newton's identities for frames: closed walks and tones. -/
set_option linter.unusedSimpArgs false
set_option linter.unusedVariables false
set_option maxRecDepth 10000
namespace Go.X

theorem walk_all {n u : Nat} (h7 : n ≤ 7) (hu : u < n) : walkB n u = true := by
  rcases Nat.lt_or_ge n 7 with h | h
  · exact List.all_eq_true.1 (List.all_eq_true.1 walk_6 n (List.mem_range.2 (by omega))) u (List.mem_range.2 hu)
  · have : n = 7 := by omega
    subst this
    have : u = 0 ∨ u = 1 ∨ u = 2 ∨ u = 3 ∨ u = 4 ∨ u = 5 ∨ u = 6 := by omega
    rcases this with rfl | rfl | rfl | rfl | rfl | rfl | rfl
    · exact walk_70
    · exact walk_71
    · exact walk_72
    · exact walk_73
    · exact walk_74
    · exact walk_75
    · exact walk_76
theorem trace_all {n : Nat} (h7 : n ≤ 7) : traceB n = true := by
  rcases Nat.lt_or_ge n 7 with h | h
  · exact List.all_eq_true.1 trace_6 n (List.mem_range.2 (by omega))
  · have : n = 7 := by omega
    subst this
    exact trace_7

/-- The tones by the number of knots. -/
def PT (f : List Nat) (k : Nat) : Int := evE f (tnL f.length) k

theorem sumZ_one {n a : Nat} (h : a < n) (g : Nat → Int) : sumZ (List.range n) (fun i => (if i = a then 1 else 0) * g i) = g a := by
  induction n with
  | zero => omega
  | succ n ih =>
    rw [List.range_succ]
    have e : ∀ (l m : List Nat) (g : Nat → Int), sumZ (l ++ m) g = sumZ l g + sumZ m g := fun l m g => by
      induction l with
      | nil => simp [sumZ]
      | cons a l ih => simp only [List.cons_append, sumZ, ih]; omega
    rw [e]
    simp only [sumZ]
    by_cases c : a = n
    · subst c
      rw [if_pos rfl, sumZ_congr (h := fun _ => 0) fun i hi => ?_, sumZ_zero]
      · omega
      · have := List.mem_range.1 hi
        rw [if_neg (by omega), Int.zero_mul]
    · rw [ih (by omega), if_neg (by omega)]; omega
theorem sumZ_apl (g : Nat → Int) : ∀ (l m : List Nat), sumZ (l ++ m) g = sumZ l g + sumZ m g
  | [], m => by simp [sumZ]
  | a :: l, m => by simp only [List.cons_append, sumZ, sumZ_apl g l m]; omega

/-- Steps, the last one taken off. -/
theorem vS_last (A : Nat → Nat → Int) (t : List Nat) : ∀ (s : Nat) (now : Nat → Int) (k : Nat), vS A t (s + 1) now k = sumZ t fun c => vS A t s now c * A c k
  | 0, now, k => rfl
  | s + 1, now, k => by
    have h := vS_last A t s (fun k => sumZ t fun i => now i * A i k) k
    exact h

/-- Walks from the first knot. -/
def W0 (f : List Nat) (s u : Nat) : Int := vS (bt f) (List.range f.length) s (fun k => if k = 0 then 1 else 0) u
/-- Tones and walks together. -/
def S0 (f : List Nat) (k u : Nat) : Int := sumZ (List.range (k + 1)) fun i => PT f i * W0 f (k - i) u

theorem S0_zero (f : List Nat) (u : Nat) : S0 f 0 u = PT f 0 * (if u = 0 then 1 else 0) := by
  simp [S0, sumZ, W0, vS]
theorem S0_succ (f : List Nat) (k u : Nat) : S0 f (k + 1) u = sumZ (List.range f.length) (fun c => S0 f k c * bt f c u) + PT f (k + 1) * (if u = 0 then 1 else 0) := by
  have h1 : S0 f (k + 1) u = sumZ (List.range (k + 1)) (fun i => PT f i * W0 f (k + 1 - i) u) + PT f (k + 1) * W0 f 0 u := by
    unfold S0
    rw [List.range_succ (n := k + 1), sumZ_apl]
    simp [sumZ]
  rw [h1]
  congr 1
  have h2 : ∀ i ∈ List.range (k + 1), PT f i * W0 f (k + 1 - i) u = sumZ (List.range f.length) fun c => PT f i * W0 f (k - i) c * bt f c u := fun i hi => by
    have hi' := List.mem_range.1 hi
    have e : k + 1 - i = (k - i) + 1 := by omega
    unfold W0
    rw [e, vS_last, ← sumZ_mul]
    exact sumZ_congr fun c _ => by rw [Int.mul_assoc]
  rw [sumZ_congr h2, sumZ_swap]
  refine sumZ_congr fun c _ => ?_
  unfold S0
  have : ∀ (l : List Nat) (g : Nat → Int) (b : Int), sumZ l g * b = sumZ l fun i => g i * b := fun l g b => by
    rw [Int.mul_comm, ← sumZ_mul]
    exact sumZ_congr fun i _ => Int.mul_comm _ _
  rw [this]

theorem hs_bt {f : List Nat} (hS : Sy f) (h7 : f.length ≤ 7) {c u : Nat} (hc : c < f.length) (hu : u < f.length) (hne : c ≠ u) (x : Int) : (if hs f (eb c u) = true then x else 0) = x * bt f c u := by
  rw [hs_eb hS hc hu h7 hne]
  unfold bt
  split <;> simp

/-- What tones and walks make together: ways, and the figures beside them. -/
theorem S0_ev {f : List Nat} (hS : Sy f) (h7 : f.length ≤ 7) (hno : ∀ i, i < f.length → (f.getD i 0).testBit i = false) : ∀ (k u : Nat), u < f.length → S0 f k u = evE f (psY f.length u) k
  | 0, u, hu => by
    have h := sameE_ev (walk_all h7 hu) f 0
    rw [h, S0_zero]
    unfold stepY
    rw [evE_app, evE_flat, sumZ_congr (h := fun _ => 0) fun c _ => ?_, sumZ_zero, Int.zero_add]
    · unfold PT
      split <;> simp [evE]
    · split
      · rfl
      · rw [evE_mul]; simp [sft]
  | k + 1, u, hu => by
    have h := sameE_ev (walk_all h7 hu) f (k + 1)
    rw [h, S0_succ]
    unfold stepY
    rw [evE_app, evE_flat]
    congr 1
    · refine sumZ_congr fun c hc => ?_
      have hc' := List.mem_range.1 hc
      by_cases e : c = u
      · subst e
        rw [if_pos rfl]
        unfold bt
        rw [hno c hc']
        simp [evE]
      · rw [if_neg e, evE_mul, S0_ev hS h7 hno k c hc', Int.one_mul, hs_bt hS h7 hc' hu e]
        simp [sft]
    · unfold PT
      split <;> simp [evE]

theorem evE_lessW (f : List Nat) (n j : Nat) : ∀ (L : List Ent), evE f (lessW n L) j = ((n : Int) - (j : Int)) * evE f L j
  | [] => by simp [lessW, evE]
  | x :: L => by
    have ih := evE_lessW f n j L
    unfold lessW at ih ⊢
    rw [List.flatMap_cons, evE_app, ih]
    simp only [evE]
    rw [Int.mul_add]
    congr 1
    by_cases c : x.2.1 = n
    · rw [if_pos c]
      by_cases d : x.2.1 = j ∧ hs f x.1 = true
      · rw [if_pos d]
        have : n = j := by omega
        subst this
        simp [evE]
      · rw [if_neg d]; simp [evE]
    · rw [if_neg c]
      simp only [evE, Int.add_zero]
      by_cases d : x.2.1 = j ∧ hs f x.1 = true
      · rw [if_pos d, if_pos d, d.1]
      · rw [if_neg d, if_neg d, Int.mul_zero]

theorem headL_perm {n v : Nat} (h : v < n) : (headL n v).Perm (List.range n) := by
  have hd : (headL n v).Nodup := by
    unfold headL
    rw [List.nodup_cons]
    exact ⟨by simp, List.nodup_range.filter _⟩
  refine perm_range n _ hd (fun a ha => ?_) ?_
  · unfold headL at ha
    rw [List.mem_cons, List.mem_filter, List.mem_range] at ha
    rcases ha with rfl | ha
    · exact h
    · exact ha.1
  · have h2 := (List.perm_cons_erase (List.mem_range.2 h)).length_eq
    have h3 : (List.range n).erase v = (List.range n).filter fun c => c != v := List.nodup_range.erase_eq_filter v
    unfold headL
    rw [← h3, ← h2, List.length_range]

/-- Newton's identities. -/
theorem newton {f : List Nat} (hf : frameB (f.map fun n : Nat => (n : Int)) = true) (k : Nat) :
    sumZ (List.range (k + 1)) (fun i => PT f i * wkA f f.length (k - i)) = ((f.length : Int) - (k : Int)) * PT f k := by
  obtain ⟨n1, n7, hok, hS⟩ := frame_iff.1 hf
  have hT := trace_all n7
  unfold traceB at hT
  rw [Bool.and_eq_true] at hT
  have h1 := sameE_ev hT.1 f k
  rw [evE_lessW, evE_flat] at h1
  unfold PT at *
  rw [← h1]
  have key : ∀ v ∈ List.range f.length, evE f (renE (headL f.length v) (psY f.length 0)) k = sumZ (List.range (k + 1)) fun i => evE f (tnL f.length) i * vS (bt f) (List.range f.length) (k - i) (fun c => if c = v then 1 else 0) v := fun v hv => by
    have hv' := List.mem_range.1 hv
    have hp := headL_perm hv'
    have hl : (headL f.length v).length = f.length := by rw [hp.length_eq, List.length_range]
    have ht : ∀ c ∈ headL f.length v, c < f.length := fun c hc => List.mem_range.1 (hp.mem_iff.1 hc)
    have hnd : (headL f.length v).Nodup := hp.nodup_iff.2 List.nodup_range
    have gl : (frm f (headL f.length v)).length = f.length := by rw [frm_len, hl]
    have e1 : evE (frm f (headL f.length v)) (psY f.length 0) k = evE f (renE (headL f.length v) (psY f.length 0)) k := by
      refine evE_ren fun x hx => hs_rn hS n7 (by rw [gl]; exact n7) (fun i hi => ?_) (fun i c hi hc => ?_) (fun i c hi hc => ?_) ?_
      · rw [gl] at hi
        exact ht _ (getD_mem (by omega))
      · rw [gl] at hi hc
        exact frm_bit (by omega) (by omega)
      · rw [gl] at hc
        have := List.pairwise_iff_getElem.1 hnd i c (by omega) (by omega) hi
        rwa [List.getD_eq_getElem?_getD, List.getD_eq_getElem?_getD, List.getElem?_eq_getElem (by omega), List.getElem?_eq_getElem (by omega)]
      · have := List.all_eq_true.1 hT.2 x hx
        rw [gl]
        simpa [Nat.blt, Nat.lt_iff_add_one_le] using this
    have hSg := frm_sy hS ht
    have hno : ∀ i, i < (frm f (headL f.length v)).length → ((frm f (headL f.length v)).getD i 0).testBit i = false := fun i hi => by
      rw [gl] at hi
      rw [frm_bit (by omega) (by omega)]
      exact (hok _ (ht _ (getD_mem (by omega)))).2
    have e2 := S0_ev hSg (by rw [gl]; exact n7) hno k 0 (by omega)
    rw [gl] at e2
    rw [← e1, ← e2]
    unfold S0
    refine sumZ_congr fun i hi => ?_
    congr 1
    · unfold PT
      rw [gl]
      have := (tn_still n7).perm hS n7 hp [] (by simpa using hl) (by simpa using ht) i
      rw [List.nil_append, List.nil_append] at this
      rw [this, ← frm_range fun i hi => (hok i hi).1]
    · unfold W0
      rw [gl]
      have hlab := vS_labels (bt f) (headL f.length v) (k - i) (fun c => if c = v then 1 else 0) 0
      rw [hl] at hlab
      have h0 : (headL f.length v).getD 0 0 = v := rfl
      rw [h0] at hlab
      rw [vS_perm hp] at hlab
      rw [← hlab]
      refine vS_congr (fun a b ha hb => ?_) _ _ _ (fun a ha => ?_) 0 (List.mem_range.2 (by omega))
      · unfold bt
        rw [frm_bit (by have := List.mem_range.1 ha; omega) (by have := List.mem_range.1 hb; omega)]
      · have ha' := List.mem_range.1 ha
        by_cases c : a = 0
        · subst c; rw [if_pos rfl, if_pos h0]
        · rw [if_neg c, if_neg]
          intro h
          have hlt : a < (headL f.length v).length := by omega
          have hq := List.pairwise_iff_getElem.1 hnd 0 a (by omega) hlt (by omega)
          rw [List.getD_eq_getElem?_getD, List.getElem?_eq_getElem hlt, Option.getD_some] at h
          exact hq (h.symm ▸ rfl)
  rw [sumZ_congr key, sumZ_swap]
  refine sumZ_congr fun i _ => ?_
  rw [sumZ_mul, wkA_eq]

theorem PT_get {f : List Nat} (hS : Sy f) (h7 : f.length ≤ 7) {k : Nat} (hk : k ≤ f.length) : (polyL f (-1) (-2)).getD (f.length - k) 0 = PT f k := by
  rw [tones_ev hS h7 (by omega)]
  unfold PT
  congr 1; omega
theorem PT_zero {f : List Nat} (hS : Sy f) (h7 : f.length ≤ 7) : PT f 0 = 1 := by
  rw [← PT_get hS h7 (Nat.zero_le _)]
  exact poly_last
theorem walk_zero (f : List Nat) (n : Nat) : wkA f n 0 = n := by
  rw [wkA_eq]
  have : ∀ (l : List Nat), sumZ l (fun a => vS (bt f) (List.range n) 0 (fun k => if k = a then 1 else 0) a) = (l.length : Int) := fun l => by
    simp only [vS, if_true]
    induction l with
    | nil => rfl
    | cons a l ih => simp only [sumZ, ih, List.length_cons]; omega
  rw [this, List.length_range]
end Go.X
