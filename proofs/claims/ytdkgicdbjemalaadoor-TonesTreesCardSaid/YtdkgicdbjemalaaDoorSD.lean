import Derived.Test.YtdkgicdbjemalaaDoorRC
/-! Tones: figures with rings as lists; ways and rings; compared in the kernel. -/
set_option linter.unusedSimpArgs false
set_option linter.unusedVariables false
set_option maxRecDepth 10000
namespace Go.X

/-- A figure, the wires of one of its rings, and how many knots the ring has. -/
abbrev Rng := Ent × Nat × Nat
def onR (ov : Nat → List Ent) (n i S : Nat) (c : Int) : Nat → Nat → Nat → Nat → Nat → List Rng
  | 0, _, _, _, _ => []
  | e + 1, p, sec, met, cur => (List.range n).flatMap fun k => if (dl S met).testBit k then
      (if 0 < met ∧ sec < k then (mulE (cur ||| eb p k ||| eb k i) (pc met + 2) c (ov (dl (dl S met) (2 ^ k)))).map (fun x => (x, cur ||| eb p k ||| eb k i, pc met + 2)) else [])
        ++ onR ov n i S c e k (if met = 0 then k else sec) (met ||| 2 ^ k) (cur ||| eb p k) else []
def drY (n : Nat) : Nat → Nat → List Rng
  | 0, _ => []
  | d + 1, left => if left = 0 then [] else
    drY n d (dl left (2 ^ ctz left))
      ++ (List.range n).flatMap (fun k => if (dl left (2 ^ ctz left)).testBit k then (drY n d (dl (dl left (2 ^ ctz left)) (2 ^ k))).map (fun x => ((x.1.1 ||| eb (ctz left) k, x.1.2.1 + 2, -1 * x.1.2.2), x.2)) else [])
      ++ onR (ovY n (-1) (-2) d) n (ctz left) (dl left (2 ^ ctz left)) (-2) 8 (ctz left) 0 0 0
def DR (n : Nat) : List Rng := drY n 7 (full n)
def single (x : Rng) : Bool := Nat.beq x.2.2 x.1.2.1
/-- The wires of the rings. -/
def RG (n : Nat) : List Nat := ((DR n).filter single).map fun x => x.2.1
/-! ### Sets of numbers as trees -/
inductive STr where
  | leaf
  | node (l : STr) (k : Nat) (r : STr)
def STr.list : STr → List Nat
  | .leaf => []
  | .node l k r => l.list ++ k :: r.list
def STr.mem : STr → Nat → Bool
  | .leaf, _ => false
  | .node l k r, m => bif Nat.blt m k then l.mem m else bif Nat.blt k m then r.mem m else Nat.beq m k
def STr.make : Nat → List Nat → STr × List Nat
  | 0, l => (.leaf, l)
  | h + 1, l => match STr.make h l with
    | (t, []) => (t, [])
    | (t, k :: l') => match STr.make h l' with
      | (u, l'') => (.node t k u, l'')
theorem STr.mem_list : ∀ {t : STr} {m : Nat}, t.mem m = true → m ∈ t.list
  | .leaf, _, h => by cases h
  | .node l k r, m, h => by
    simp only [STr.mem] at h
    simp only [STr.list, List.mem_append, List.mem_cons]
    cases h1 : Nat.blt m k with
    | true => rw [h1, cond_true] at h; exact .inl (STr.mem_list h)
    | false =>
      rw [h1, cond_false] at h
      cases h2 : Nat.blt k m with
      | true => rw [h2, cond_true] at h; exact .inr (.inr (STr.mem_list h))
      | false => rw [h2, cond_false] at h; exact .inr (.inl (Nat.eq_of_beq_eq_true h))
theorem STr.make_list : ∀ (h : Nat) (l : List Nat), (STr.make h l).1.list ++ (STr.make h l).2 = l
  | 0, l => rfl
  | h + 1, l => by
    have e := STr.make_list h l
    simp only [STr.make]
    generalize hp : STr.make h l = p at *
    obtain ⟨t, l1⟩ := p
    cases l1 with
    | nil => exact e
    | cons k l' =>
      have e2 := STr.make_list h l'
      show (STr.node t k (STr.make h l').1).list ++ (STr.make h l').2 = l
      simp only [STr.list] at e ⊢
      rw [List.append_assoc, List.cons_append, e2]; exact e
theorem mem_mrg : ∀ (n : Nat) (a b : List Ent) (z : Ent), z ∈ mrg n a b → ∃ y, (y ∈ a ∨ y ∈ b) ∧ y.1 = z.1
  | 0, a, b, z, h => by
    simp only [mrg, List.mem_append] at h
    exact ⟨z, h, rfl⟩
  | n + 1, [], b, z, h => by simp only [mrg] at h; exact ⟨z, .inr h, rfl⟩
  | n + 1, x :: a, [], z, h => by simp only [mrg] at h; exact ⟨z, .inl h, rfl⟩
  | n + 1, x :: a, y :: b, z, h => by
    have up : (∃ w, (w ∈ a ∨ w ∈ b) ∧ w.1 = z.1) → ∃ w, (w ∈ x :: a ∨ w ∈ y :: b) ∧ w.1 = z.1 := fun ⟨w, hw, e⟩ => ⟨w, hw.imp (List.mem_cons_of_mem _) (List.mem_cons_of_mem _), e⟩
    have hx : ∀ w : Ent, w.1 = x.1 → z = w → ∃ w, (w ∈ x :: a ∨ w ∈ y :: b) ∧ w.1 = z.1 := fun w e1 e2 => ⟨x, .inl List.mem_cons_self, by rw [e2, e1]⟩
    simp only [mrg] at h
    cases h1 : Nat.blt x.1 y.1 with
    | true =>
      rw [h1, cond_true, List.mem_cons] at h
      rcases h with h | h
      · exact hx x rfl h
      · obtain ⟨w, hw, e⟩ := mem_mrg n a (y :: b) z h
        exact ⟨w, hw.imp (List.mem_cons_of_mem _) id, e⟩
    | false =>
      rw [h1, cond_false] at h
      cases h2 : Nat.blt y.1 x.1 with
      | true =>
        rw [h2, cond_true, List.mem_cons] at h
        rcases h with h | h
        · exact ⟨y, .inr List.mem_cons_self, by rw [h]⟩
        · obtain ⟨w, hw, e⟩ := mem_mrg n (x :: a) b z h
          exact ⟨w, hw.imp id (List.mem_cons_of_mem _), e⟩
      | false =>
        rw [h2, cond_false] at h
        cases h3 : Nat.beq x.2.1 y.2.1 with
        | true =>
          rw [h3, cond_true] at h
          cases h4 : (x.2.2 + y.2.2 == 0) with
          | true => rw [h4, cond_true] at h; exact up (mem_mrg n a b z h)
          | false =>
            rw [h4, cond_false, List.mem_cons] at h
            rcases h with h | h
            · exact ⟨x, .inl List.mem_cons_self, by rw [h]⟩
            · exact up (mem_mrg n a b z h)
        | false =>
          rw [h3, cond_false, List.mem_cons, List.mem_cons] at h
          rcases h with h | h | h
          · exact hx x rfl h
          · exact ⟨y, .inr List.mem_cons_self, by rw [h]⟩
          · exact up (mem_mrg n a b z h)
theorem mem_halves : ∀ (l : List Ent) (z : Ent), z ∈ (halves l).1 ∨ z ∈ (halves l).2 → z ∈ l
  | [], z, h => by simp [halves] at h
  | x :: l, z, h => by
    simp only [halves, List.mem_cons] at h ⊢
    rcases h with (h | h) | h
    · exact .inl h
    · exact .inr (mem_halves l z (.inr h))
    · exact .inr (mem_halves l z (.inl h))
theorem mem_srt : ∀ (n : Nat) (l : List Ent) (z : Ent), z ∈ srt n l → ∃ y ∈ l, y.1 = z.1
  | 0, l, z, h => ⟨z, h, rfl⟩
  | n + 1, [], z, h => by cases h
  | n + 1, [x], z, h => ⟨z, h, rfl⟩
  | n + 1, x :: y :: l, z, h => by
    have e : srt (n + 1) (x :: y :: l) = mrg 10000 (srt n (halves (x :: y :: l)).1) (srt n (halves (x :: y :: l)).2) := rfl
    rw [e] at h
    obtain ⟨w, hw, e1⟩ := mem_mrg _ _ _ _ h
    rcases hw with hw | hw
    · obtain ⟨v, hv, e2⟩ := mem_srt n _ w hw
      exact ⟨v, mem_halves _ v (.inl hv), e2.trans e1⟩
    · obtain ⟨v, hv, e2⟩ := mem_srt n _ w hw
      exact ⟨v, mem_halves _ v (.inr hv), e2.trans e1⟩
def treeN (l : List Nat) : STr := (STr.make 11 ((srt 14 (l.map fun m => ((m, 0, 1) : Ent))).map fun x => x.1)).1
theorem treeN_mem {l : List Nat} {m : Nat} (h : (treeN l).mem m = true) : m ∈ l := by
  have h1 := STr.mem_list h
  have h2 := STr.make_list 11 ((srt 14 (l.map fun m => ((m, 0, 1) : Ent))).map fun x => x.1)
  have h3 : m ∈ (srt 14 (l.map fun m => ((m, 0, 1) : Ent))).map fun x => x.1 := by
    rw [← h2]; exact List.mem_append_left _ h1
  obtain ⟨z, hz, rfl⟩ := List.mem_map.1 h3
  obtain ⟨y, hy, e⟩ := mem_srt _ _ _ hz
  obtain ⟨k, hk, rfl⟩ := List.mem_map.1 hy
  rw [← e]; exact hk

/-- The rings' wires, with their number of knots in the last three bits. -/
def RK (n : Nat) : List Nat := ((DR n).filter single).map fun x => 8 * x.2.1 + x.2.2
def drB (n : Nat) : Bool := (DR n).all fun x => Nat.beq (x.1.1 &&& x.2.1) x.2.1 && (Nat.ble x.2.2 x.1.2.1 && (Nat.blt x.2.2 8 && (if single x then Nat.beq x.1.1 x.2.1 && x.1.2.2 == -2 else (treeN (RK n)).mem (8 * x.2.1 + x.2.2))))
def dsB (n : Nat) : Bool := sameE (tnL n) (maY n 7 (full n) ++ (DR n).map fun x => x.1)

/-- The wires of the ways from a knot on to another one. -/
def wayM (n u : Nat) : Nat → Nat → Nat → Nat → List Nat
  | 0, _, _, _ => []
  | d + 1, p, left, cur => if p = u then [cur] else (List.range n).flatMap fun k => if left.testBit k then wayM n u d k (dl left (2 ^ k)) (cur ||| eb p k) else []
def ways (n i k : Nat) : List Nat := wayM n k 7 i (dl (full n) (2 ^ i)) 0
def c1B (n : Nat) : Bool := (List.range n).all fun k => (List.range k).all fun i => (ways n i k).all fun m => m.testBit (ix i k) || (treeN (RG n)).mem (m ||| eb i k)
def c2A (n : Nat) : Bool := (RG n).all fun r => !Nat.beq r 0 && Nat.blt r (2 ^ (n * (n - 1) / 2))
def c2P (n k : Nat) : Bool := (List.range k).all fun i => (RG n).all fun r => !r.testBit (ix i k) || (treeN (ways n i k)).mem (r ^^^ eb i k)
end Go.X
