import Derived.Test.YtdkgicdbjemalaaDoorMJ
/-! Tones: what the sums over figures have in common. -/
set_option linter.unusedSimpArgs false
set_option linter.unusedVariables false
namespace Go.X

theorem adL_get (out : List Int) (k j : Nat) (x : Int) : (adL out k x).getD j 0 = out.getD j 0 + if j = k then x else 0 := by
  unfold adL
  simp only [List.getD_eq_getElem?_getD, List.getElem?_set, List.length_append, List.length_replicate]
  have hpad : ∀ i : Nat, ((out ++ List.replicate (k + 1 - out.length) (0 : Int))[i]?).getD 0 = (out[i]?).getD 0 := fun i => by
    rw [List.getElem?_append]
    split
    · rfl
    · rw [List.getElem?_replicate, List.getElem?_eq_none (by omega)]
      split <;> rfl
  by_cases h : k = j
  · subst h
    rw [if_pos rfl, if_pos (by omega), if_pos rfl, Option.getD_some, hpad]
  · rw [if_neg h, hpad, if_neg (fun e => h e.symm)]
    omega

theorem morL_get (c : Int) : ∀ (l out : List Int) (m j : Nat), (morL c out m l).getD j 0 = out.getD j 0 + c * (if m ≤ j then l.getD (j - m) 0 else 0)
  | [], out, m, j => by simp [morL]
  | x :: l, out, m, j => by
    simp only [morL]
    rw [morL_get c l, adL_get]
    by_cases h : j = m
    · subst h
      rw [if_pos rfl, if_neg (by omega), if_pos (Nat.le_refl _), Nat.sub_self]
      simp
    · rw [if_neg h]
      by_cases h2 : m ≤ j
      · rw [if_pos (by omega), if_pos h2, show j - m = j - (m + 1) + 1 by omega]
        simp
      · rw [if_neg (by omega), if_neg h2]
        simp

/-! ### The number for no knots -/
theorem onL_get0 {ov : Nat → List Int} {f : List Nat} {n i S : Nat} {c : Int} : ∀ (e p sec met : Nat) (out : List Int), (onL ov f n i S c e p sec met out).getD 0 0 = out.getD 0 0
  | 0, _, _, _, _ => rfl
  | e + 1, p, sec, met, out => by
    simp only [onL]
    have : ∀ (ks : List Nat) (out : List Int), (ks.foldl (fun out k => if (dl (f.getD p 0 &&& S) met).testBit k = true then
      onL ov f n i S c e k (if met = 0 then k else sec) (met ||| 2 ^ k)
        (if 0 < met ∧ sec < k ∧ (f.getD k 0).testBit i = true then morL c out (pc met + 2) (ov (dl (dl S met) (2 ^ k))) else out)
      else out) out).getD 0 0 = out.getD 0 0 := by
      intro ks
      induction ks with
      | nil => intro out; rfl
      | cons k ks ih =>
        intro out
        rw [List.foldl_cons, ih]
        split
        · rw [onL_get0 e]
          split
          · rw [morL_get, if_neg (by omega)]; simp
          · rfl
        · rfl
    exact this _ _

theorem ovL_get0 {f : List Nat} {w r : Int} : ∀ (d left : Nat), (ovL f w r d left).getD 0 0 = 1
  | 0, left => rfl
  | d + 1, left => by
    simp only [ovL]
    split
    · rfl
    · rw [onL_get0]
      have : ∀ (ks : List Nat) (out : List Int), (ks.foldl (fun out k => if (f.getD (ctz left) 0 &&& dl left (2 ^ ctz left)).testBit k = true then morL w out 2 (ovL f w r d (dl (dl left (2 ^ ctz left)) (2 ^ k))) else out) out).getD 0 0 = out.getD 0 0 := by
        intro ks
        induction ks with
        | nil => intro out; rfl
        | cons k ks ih =>
          intro out
          rw [List.foldl_cons, ih]
          split
          · rw [morL_get, if_neg (by omega)]; simp
          · rfl
      rw [this]
      exact ovL_get0 d _

/-! ### Signs do not make more than there is -/
/-- A sum with signs, how many there are, and how many there would be with all wires. -/
def Tri (s m k : List Int) : Prop := ∀ j, 0 ≤ m.getD j 0 ∧ m.getD j 0 ≤ k.getD j 0 ∧ (m.getD j 0 = 0 → s.getD j 0 = 0)

theorem Tri.more {c : Int} {s m k s' m' k' : List Int} (h : Tri s m k) (h' : Tri s' m' k') (q : Nat) : Tri (morL c s q s') (morL 1 m q m') (morL 1 k q k') := by
  intro j
  obtain ⟨a1, a2, a3⟩ := h j
  rw [morL_get, morL_get, morL_get]
  split
  · obtain ⟨b1, b2, b3⟩ := h' (j - q)
    refine ⟨by omega, by omega, fun e => ?_⟩
    rw [a3 (by omega), b3 (by omega)]; simp
  · refine ⟨by omega, by omega, fun e => ?_⟩
    rw [a3 (by omega)]; simp

theorem Tri.moreK {s m k k' : List Int} (h : Tri s m k) (h' : ∀ j, 0 ≤ k'.getD j 0) (q : Nat) : Tri s m (morL 1 k q k') := by
  intro j
  obtain ⟨a1, a2, a3⟩ := h j
  rw [morL_get]
  refine ⟨a1, ?_, a3⟩
  split
  · have := h' (j - q); omega
  · omega

theorem fold_inv {α β : Type} {I : β → Prop} {g : β → α → β} : ∀ (l : List α) (b : β), I b → (∀ b a, a ∈ l → I b → I (g b a)) → I (l.foldl g b)
  | [], b, h, _ => h
  | a :: l, b, h, hs => fold_inv l _ (hs b a List.mem_cons_self h) fun b' a' ha' => hs b' a' (List.mem_cons_of_mem _ ha')

theorem onL_moreK {ov : Nat → List Int} {g : List Nat} {n i S : Nat} {s m : List Int} (hk : ∀ T, Sub T S → ∀ j, 0 ≤ (ov T).getD j 0) : ∀ (e p sec met : Nat) (k : List Int), Tri s m k → Tri s m (onL ov g n i S 1 e p sec met k)
  | 0, _, _, _, k, h => h
  | e + 1, p, sec, met, k, h => by
    simp only [onL]
    refine fold_inv (I := fun k => Tri s m k) _ _ h fun k a _ hI => ?_
    split
    · refine onL_moreK hk e _ _ _ _ ?_
      split
      · exact hI.moreK (hk _ ((sub_dl _ _).trans (sub_dl _ _))) _
      · exact hI
    · exact hI

theorem fold_tri {α : Type} {g1 g2 g3 : List Int → α → List Int} : ∀ (l : List α) (s m k : List Int), Tri s m k → (∀ s m k a, a ∈ l → Tri s m k → Tri (g1 s a) (g2 m a) (g3 k a)) → Tri (l.foldl g1 s) (l.foldl g2 m) (l.foldl g3 k)
  | [], _, _, _, h, _ => h
  | a :: l, s, m, k, h, hs => fold_tri l _ _ _ (hs s m k a List.mem_cons_self h) fun s m k a' ha' => hs s m k a' (List.mem_cons_of_mem _ ha')

theorem full_bit {n p k : Nat} (hp : p < n) (hk : k < 7) : ((List.replicate n 127).getD p 0).testBit k = true := by
  rw [List.getD_eq_getElem?_getD, List.getElem?_replicate, if_pos hp]
  have : ∀ k, k < 7 → (127 : Nat).testBit k = true := by decide
  exact this k hk

theorem onL_tri {os om ok : Nat → List Int} {f : List Nat} {i S : Nat} {c : Int} (hn : f.length ≤ 7) (hi : i < f.length) (ht : ∀ T, Sub T S → Tri (os T) (om T) (ok T)) : ∀ (e p sec met : Nat) (s m k : List Int), p < f.length → Tri s m k →
    Tri (onL os f f.length i S c e p sec met s) (onL om f f.length i S 1 e p sec met m) (onL ok (List.replicate f.length 127) f.length i S 1 e p sec met k)
  | 0, _, _, _, _, _, _, _, h => h
  | e + 1, p, sec, met, s, m, k, hp, h => by
    simp only [onL]
    refine fold_tri _ _ _ _ h fun s m k a ha hI => ?_
    have ha' : a < f.length := List.mem_range.1 ha
    have hk0 : ∀ T, Sub T S → ∀ j, 0 ≤ (ok T).getD j 0 := fun T hT j => by have := ht T hT j; omega
    have hsub : Sub (dl (dl S met) (2 ^ a)) S := (sub_dl _ _).trans (sub_dl _ _)
    have hg : (dl ((List.replicate f.length 127).getD p 0 &&& S) met).testBit a = (S.testBit a && !met.testBit a) := by
      rw [dl_bit, Nat.testBit_and, full_bit hp (by omega), Bool.true_and]
    cases hb : (dl (f.getD p 0 &&& S) met).testBit a with
    | true =>
      have hb' := hb
      rw [dl_bit, Nat.testBit_and, Bool.and_eq_true, Bool.and_eq_true] at hb'
      have hK : (dl ((List.replicate f.length 127).getD p 0 &&& S) met).testBit a = true := by rw [hg, hb'.1.2, hb'.2]; rfl
      rw [if_pos rfl, if_pos rfl, if_pos hK]
      refine onL_tri hn hi ht e _ _ _ _ _ _ ha' ?_
      by_cases hc : 0 < met ∧ sec < a ∧ (f.getD a 0).testBit i = true
      · rw [if_pos hc, if_pos hc, if_pos ⟨hc.1, hc.2.1, full_bit ha' (by omega)⟩]
        exact hI.more (ht _ hsub) _
      · rw [if_neg hc, if_neg hc]
        split
        · exact hI.moreK (hk0 _ hsub) _
        · exact hI
    | false =>
      rw [if_neg (by simp), if_neg (by simp)]
      split
      · refine onL_moreK hk0 _ _ _ _ _ ?_
        split
        · exact hI.moreK (hk0 _ hsub) _
        · exact hI
      · exact hI

theorem ovL_tri {f : List Nat} {w r : Int} (hn : f.length ≤ 7) : ∀ (d left : Nat), left < 2 ^ f.length → Tri (ovL f w r d left) (ovL f 1 1 d left) (ovL (List.replicate f.length 127) 1 1 d left)
  | 0, left, _ => fun j => by
    simp only [ovL]
    cases j <;> simp
  | d + 1, left, hl => by
    have hp7 : 2 ^ f.length ≤ 128 := by
      have : (2 : Nat) ^ f.length ≤ 2 ^ 7 := Nat.pow_le_pow_right (by decide) hn
      omega
    simp only [ovL, List.length_replicate]
    by_cases h0 : left = 0
    · rw [if_pos h0, if_pos h0, if_pos h0]
      intro j
      cases j <;> simp
    · rw [if_neg h0, if_neg h0, if_neg h0]
      have hb := ctz_ok (m := left) (by omega) h0
      have hin : ctz left < f.length := by
        rcases Nat.lt_or_ge (ctz left) f.length with h | h
        · exact h
        · rw [Nat.testBit_lt_two_pow (Nat.lt_of_lt_of_le hl (Nat.pow_le_pow_right (by decide) h))] at hb; cases hb
      have hS : dl left (2 ^ ctz left) < 2 ^ f.length := Nat.lt_of_le_of_lt (dl_le _ _) hl
      have ht : ∀ T, Sub T (dl left (2 ^ ctz left)) → Tri (ovL f w r d T) (ovL f 1 1 d T) (ovL (List.replicate f.length 127) 1 1 d T) := fun T hT => ovL_tri hn d T (Nat.lt_of_le_of_lt hT.le hS)
      generalize dl left (2 ^ ctz left) = S at ht hS
      refine onL_tri hn hin ht _ _ _ _ _ _ _ hin ?_
      refine fold_tri _ _ _ _ (ht S (Sub.refl S)) fun s m k a ha hI => ?_
      have ha' : a < f.length := List.mem_range.1 ha
      have hk0 : ∀ T, Sub T S → ∀ j, 0 ≤ (ovL (List.replicate f.length 127) 1 1 d T).getD j 0 := fun T hT j => by have := ht T hT j; omega
      cases hb : (f.getD (ctz left) 0 &&& S).testBit a with
      | true =>
        have hb' := hb
        rw [Nat.testBit_and, Bool.and_eq_true] at hb'
        have hK : ((List.replicate f.length 127).getD (ctz left) 0 &&& S).testBit a = true := by rw [Nat.testBit_and, full_bit hin (by omega), hb'.2]; rfl
        rw [if_pos rfl, if_pos rfl, if_pos hK]
        exact hI.more (ht _ (sub_dl _ _)) _
      | false =>
        rw [if_neg (by simp), if_neg (by simp)]
        split
        · exact hI.moreK (hk0 _ (sub_dl _ _)) _
        · exact hI

set_option maxRecDepth 100000 in
theorem full_all : ([1, 2, 3, 4, 5, 6, 7].all fun n => (ovL (List.replicate n 127) 1 1 7 (2 ^ n - 1)).all fun x => decide (x < 100000)) = true := by decide +kernel

/-- The numbers of figures are small, and not below 0; where there are none, their sum is 0. -/
theorem figs_small {f : List Nat} {w r : Int} (h1 : 1 ≤ f.length) (h7 : f.length ≤ 7) (j : Nat) : 0 ≤ (ovL f 1 1 7 (2 ^ f.length - 1)).getD j 0 ∧ (ovL f 1 1 7 (2 ^ f.length - 1)).getD j 0 < 100000 ∧
    ((ovL f 1 1 7 (2 ^ f.length - 1)).getD j 0 = 0 → (ovL f w r 7 (2 ^ f.length - 1)).getD j 0 = 0) := by
  have h2 : 1 ≤ 2 ^ f.length := Nat.pow_pos (by decide)
  obtain ⟨a1, a2, a3⟩ := ovL_tri (w := w) (r := r) h7 7 (2 ^ f.length - 1) (by omega) j
  refine ⟨a1, ?_, a3⟩
  have hall := List.all_eq_true.1 full_all f.length (by simp; omega)
  have : (ovL (List.replicate f.length 127) 1 1 7 (2 ^ f.length - 1)).getD j 0 < 100000 := by
    rcases Nat.lt_or_ge j (ovL (List.replicate f.length 127) 1 1 7 (2 ^ f.length - 1)).length with hj | hj
    · rw [List.getD_eq_getElem?_getD, List.getElem?_eq_getElem hj, Option.getD_some]
      have := List.all_eq_true.1 hall _ (List.getElem_mem hj)
      simpa using this
    · rw [List.getD_eq_getElem?_getD, List.getElem?_eq_none hj]; decide
  omega
end Go.X
