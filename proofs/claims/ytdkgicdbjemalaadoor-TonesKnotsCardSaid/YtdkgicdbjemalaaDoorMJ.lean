import Derived.Test.YtdkgicdbjemalaaDoorMI
/-! Tones: sums over figures (over). -/
set_option linter.unusedSimpArgs false
set_option linter.unusedVariables false
set_option maxHeartbeats 2000000
set_option maxRecDepth 10000
namespace Go.X
open Go Go.RowKit

/-! ### How long the lists are -/
def Sub (b a : Nat) : Prop := ∀ j, b.testBit j = true → a.testBit j = true
theorem Sub.refl (a : Nat) : Sub a a := fun _ h => h
theorem Sub.trans {a b c : Nat} (h : Sub a b) (k : Sub b c) : Sub a c := fun j hj => k j (h j hj)
theorem sub_dl (a b : Nat) : Sub (dl a b) a := fun j h => by rw [dl_bit] at h; simp at h; exact h.1
theorem Sub.le {a b : Nat} (h : Sub b a) : b ≤ a := by
  have : b = b &&& a := by
    apply Nat.eq_of_testBit_eq
    intro j
    rw [Nat.testBit_and]
    cases hb : b.testBit j with
    | false => rfl
    | true => rw [h j hb]; rfl
  rw [this]; exact Nat.and_le_right

theorem pc_add {a b : Nat} (h : Sub b a) : pc (dl a b) + pc b = pc a := by
  unfold pc
  have : ∀ l : List Nat, (l.filter fun j => (dl a b).testBit j).length + (l.filter fun j => b.testBit j).length = (l.filter fun j => a.testBit j).length := by
    intro l
    induction l with
    | nil => rfl
    | cons x l ih =>
      simp only [List.filter_cons, dl_bit] at ih ⊢
      cases hb : b.testBit x with
      | true => rw [h x hb]; simp; omega
      | false => cases a.testBit x <;> simp <;> omega
  exact this _

theorem pc_two {k : Nat} (h : k < 7) : pc (2 ^ k) = 1 := by
  match k, h with
  | 0, _ => decide
  | 1, _ => decide
  | 2, _ => decide
  | 3, _ => decide
  | 4, _ => decide
  | 5, _ => decide
  | 6, _ => decide

theorem sub_two {a k : Nat} (h : a.testBit k = true) : Sub (2 ^ k) a := fun j hj => by
  rw [Nat.testBit_two_pow] at hj
  have : k = j := by simpa using hj
  subst this; exact h

theorem pc_del {a k : Nat} (h : a.testBit k = true) (hk : k < 7) : pc (dl a (2 ^ k)) + 1 = pc a := by
  have := pc_add (sub_two h)
  rw [pc_two hk] at this; exact this

theorem sub_or {a b k : Nat} (h : Sub b a) (hk : a.testBit k = true) : Sub (b ||| 2 ^ k) a := fun j hj => by
  rw [Nat.testBit_or, Bool.or_eq_true] at hj
  rcases hj with hj | hj
  · exact h j hj
  · exact sub_two hk j hj

theorem adL_le {out : List Int} {k L : Nat} (x : Int) (h : out.length ≤ L) (hk : k < L) : (adL out k x).length ≤ L := by rw [adL_len]; omega

theorem morL_le (c : Int) {L : Nat} : ∀ (l out : List Int) (j : Nat), out.length ≤ L → j + l.length ≤ L → (morL c out j l).length ≤ L
  | [], out, j, h, _ => h
  | x :: l, out, j, h, hj => by
    simp only [morL]
    simp only [List.length_cons] at hj
    exact morL_le c l _ _ (adL_le _ h (by omega)) (by omega)

theorem onL_le {ov : Nat → List Int} {f : List Nat} {n i S : Nat} {c : Int} (hn : n ≤ 7) (hov : ∀ T, Sub T S → (ov T).length ≤ pc T + 1) : ∀ (e p sec met : Nat) (out : List Int), Sub met S → out.length ≤ pc S + 2 → (onL ov f n i S c e p sec met out).length ≤ pc S + 2
  | 0, _, _, _, out, _, h => h
  | e + 1, p, sec, met, out, hm, h => by
    simp only [onL]
    have : ∀ (ks : List Nat) (out : List Int), (∀ k ∈ ks, k < n) → out.length ≤ pc S + 2 → (ks.foldl (fun out k => if (dl (f.getD p 0 &&& S) met).testBit k = true then
      onL ov f n i S c e k (if met = 0 then k else sec) (met ||| 2 ^ k)
        (if 0 < met ∧ sec < k ∧ (f.getD k 0).testBit i = true then morL c out (pc met + 2) (ov (dl (dl S met) (2 ^ k))) else out)
      else out) out).length ≤ pc S + 2 := by
      intro ks
      induction ks with
      | nil => intro out _ h; exact h
      | cons k ks ih =>
        intro out hk h
        rw [List.foldl_cons]
        refine ih _ (fun k' h' => hk k' (List.mem_cons_of_mem _ h')) ?_
        split
        · rename_i hb
          rw [dl_bit, Nat.testBit_and, Bool.and_eq_true, Bool.and_eq_true, Bool.not_eq_true'] at hb
          obtain ⟨⟨_, hb2⟩, hb3⟩ := hb
          have hk7 : k < 7 := by have := hk k List.mem_cons_self; omega
          refine onL_le hn hov e _ _ _ _ (sub_or hm hb2) ?_
          split
          · refine morL_le _ _ _ _ h ?_
            have h1 := hov (dl (dl S met) (2 ^ k)) ((sub_dl _ _).trans (sub_dl _ _))
            have h2 := pc_del (a := dl S met) (k := k) (by rw [dl_bit, hb2, hb3]; rfl) hk7
            have h3 := pc_add hm
            omega
          · exact h
        · exact h
    exact this _ _ (fun k hk => List.mem_range.1 hk) h

/-- The sums over figures, by how many knots they have. -/
def ovL (f : List Nat) (w r : Int) : Nat → Nat → List Int
  | 0, _ => [1]
  | d + 1, left => if left = 0 then [1] else
    onL (ovL f w r d) f f.length (ctz left) (dl left (2 ^ ctz left)) r 8 (ctz left) 0 0
      ((List.range f.length).foldl (fun out k => if (f.getD (ctz left) 0 &&& dl left (2 ^ ctz left)).testBit k then morL w out 2 (ovL f w r d (dl (dl left (2 ^ ctz left)) (2 ^ k))) else out) (ovL f w r d (dl left (2 ^ ctz left))))

theorem ctz_ok_all : (List.range 128).all (fun m => m == 0 || m.testBit (ctz m)) = true := by decide
theorem ctz_ok {m : Nat} (h : m < 128) (h0 : m ≠ 0) : m.testBit (ctz m) = true := by
  have := List.all_eq_true.1 ctz_ok_all m (List.mem_range.2 h)
  rw [Bool.or_eq_true] at this
  rcases this with h1 | h1
  · exact absurd (by simpa using h1) h0
  · exact h1
theorem ctz_lt (m : Nat) : ctz m < 7 := by
  unfold ctz
  cases hf : (List.range 7).find? fun j => m.testBit j with
  | none => decide
  | some j => have := List.mem_of_find?_eq_some hf; simpa using this

theorem ovL_le {f : List Nat} {w r : Int} (hf : f.length ≤ 7) : ∀ (d left : Nat), left < 128 → (ovL f w r d left).length ≤ pc left + 1
  | 0, left, _ => by simp [ovL]
  | d + 1, left, h => by
    simp only [ovL]
    split
    · simp
    · rename_i h0
      have hb := ctz_ok h h0
      have hp := pc_del hb (ctz_lt left)
      have hS : dl left (2 ^ ctz left) < 128 := Nat.lt_of_le_of_lt (dl_le _ _) h
      have hov : ∀ T, Sub T (dl left (2 ^ ctz left)) → (ovL f w r d T).length ≤ pc T + 1 := fun T hT => ovL_le hf d T (Nat.lt_of_le_of_lt hT.le hS)
      have hgoal : pc left + 1 = pc (dl left (2 ^ ctz left)) + 2 := by omega
      rw [hgoal]
      generalize dl left (2 ^ ctz left) = S at hov hS
      refine onL_le hf hov _ _ _ _ _ (fun j hj => by simp at hj) ?_
      have : ∀ (ks : List Nat) (out : List Int), (∀ k ∈ ks, k < f.length) → out.length ≤ pc S + 2 → (ks.foldl (fun out k => if (f.getD (ctz left) 0 &&& S).testBit k = true then morL w out 2 (ovL f w r d (dl S (2 ^ k))) else out) out).length ≤ pc S + 2 := by
        intro ks
        induction ks with
        | nil => intro out _ h; exact h
        | cons k ks ih =>
          intro out hk h
          rw [List.foldl_cons]
          refine ih _ (fun k' h' => hk k' (List.mem_cons_of_mem _ h')) ?_
          split
          · rename_i hb
            rw [Nat.testBit_and, Bool.and_eq_true] at hb
            refine morL_le _ _ _ _ h ?_
            have h1 := hov (dl S (2 ^ k)) (sub_dl _ _)
            have h2 := pc_del hb.2 (by have := hk k List.mem_cons_self; omega)
            omega
          · exact h
      refine this _ _ (fun k hk => List.mem_range.1 hk) ?_
      have := hov S (Sub.refl S)
      omega
end Go.X
