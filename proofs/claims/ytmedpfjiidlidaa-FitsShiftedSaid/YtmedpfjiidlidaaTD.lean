import Derived.Test.YtmedpfjiidlidaaTB
/-! Fits: what does not change when a table is shifted; all orders of names (plain laws). -/
set_option linter.unusedSimpArgs false
set_option linter.unusedVariables false
set_option maxHeartbeats 4000000
set_option maxRecDepth 10000
namespace Go.X
open Go Go.RowKit

/-! ### shifted -/
theorem addAt_dot {b : Int} : ∀ {c : Nat} {r ys : List Int}, c < r.length → r.length = ys.length → dotS (addAt c b r) ys = dotS r ys + b * ys.getD c 0
  | 0, a :: r, y :: ys, _, _ => by
    have e : addAt 0 b (a :: r) = (a + b) :: r := by simp [addAt]
    rw [e]
    simp only [dotS, List.getD_cons_zero]
    rw [Int.add_mul]; omega
  | c + 1, a :: r, y :: ys, h, hl => by
    have e : addAt (c + 1) b (a :: r) = a :: addAt c b r := by simp [addAt]
    have ih := addAt_dot (b := b) (c := c) (r := r) (ys := ys) (by simpa using h) (by simpa using hl)
    rw [e]
    simp only [dotS, List.getD_cons_succ]
    rw [ih]; omega
theorem foldl_max_add {s : Int} : ∀ (l : List Int) (x : Int), (l.map (· + s)).foldl max (x + s) = l.foldl max x + s
  | [], _ => rfl
  | y :: l, x => by
    rw [List.map_cons, List.foldl_cons, List.foldl_cons, ← foldl_max_add l]
    congr 1; omega
theorem maxI_add {s : Int} : ∀ {g : List Int}, g ≠ [] → maxI (g.map (· + s)) = maxI g + s
  | [], h => absurd rfl h
  | x :: g, _ => foldl_max_add g x
theorem setS_map {p : Int → Bool} {f : Int → Int} : ∀ (l : List Int) (i : Nat), setS p (l.map f) i = setS (fun x => p (f x)) l i
  | [], _ => rfl
  | x :: l, i => by rw [List.map_cons, setS, setS, setS_map l]
theorem dotS_add {s : Int} : ∀ {xs g : List Int}, xs.length = g.length → dotS xs (g.map (· + s)) = dotS xs g + sumL xs * s
  | [], [], _ => by simp [dotS, sumL]
  | x :: xs, y :: g, h => by
    have ih := dotS_add (s := s) (xs := xs) (g := g) (by simpa using h)
    have e : sumL (x :: xs) = x + sumL xs := rfl
    simp only [List.map_cons, dotS]
    rw [ih, e, Int.mul_add, Int.add_mul]; omega

section
variable {t : List (List Int)} {c : Nat} {b : Int} (hok : okTab t) (hc : c < t.length)
include hok hc
theorem shift_map {ys : List Int} (hy : ys.length = t.length) : (t.map (addAt c b)).map (dotS · ys) = (t.map (dotS · ys)).map (· + b * ys.getD c 0) := by
  rw [List.map_map, List.map_map]
  refine List.map_congr_left fun r hr => ?_
  have := (hok.2.2 r hr).1
  exact addAt_dot (by omega) (by omega)
theorem shift_best {ys : List Int} (hy : ys.length = t.length) : bestS (t.map (addAt c b)) ys = bestS t ys := by
  have hne : t.map (dotS · ys) ≠ [] := by
    intro h
    have := congrArg List.length h
    simp at this
    have := hok.1
    simp_all
  unfold bestS
  simp only
  rw [shift_map hok hc hy, maxI_add hne, setS_map]
  congr 1
  funext x
  rw [Bool.eq_iff_iff, beq_iff_eq, beq_iff_eq]; omega
theorem shift_gain {xs ys : List Int} (hx : xs.length = t.length) (hy : ys.length = t.length) : gainS (t.map (addAt c b)) xs ys = gainS t xs ys + sumL xs * (b * ys.getD c 0) := by
  rw [gain_dot, shift_map hok hc hy, dotS_add (by simpa using hx), ← gain_dot]
theorem shift_tat {i k : Nat} (hi : i < t.length) (hk : k < t.length) : tat (t.map (addAt c b)) i k = tat t i k + if k = c then b else 0 := by
  have hr := (hok.2.2 _ (List.getElem_mem hi)).1
  unfold tat
  have e1 : (t.map (addAt c b)).getD i [] = addAt c b t[i] := by rw [List.getD_eq_getElem?_getD, List.getElem?_map, List.getElem?_eq_getElem hi]; rfl
  have e2 : t.getD i [] = t[i] := by rw [List.getD_eq_getElem?_getD, List.getElem?_eq_getElem hi]; rfl
  rw [e1, e2]
  unfold addAt
  rw [List.getD_eq_getElem?_getD, List.getElem?_set]
  by_cases q : c = k
  · subst q
    rw [if_pos rfl, if_pos (by omega), if_pos rfl]; rfl
  · rw [if_neg q, if_neg (fun h => q h.symm), ← List.getD_eq_getElem?_getD]; omega
theorem shift_way {f i k : Nat} (hf : f < t.length) (hi : i < t.length) (hk : k < t.length) : wayS (t.map (addAt c b)) f i k = wayS t f i k := by
  unfold wayS gainW
  rw [shift_tat hok hc hi hk, shift_tat hok hc hi hf, shift_tat hok hc hf hk, shift_tat hok hc hf hf, shift_tat hok hc hk hi, shift_tat hok hc hk hf, shift_tat hok hc hf hi]; omega
theorem shift_lasts {ys : List Int} (hy : ys.length = t.length) (h0 : 0 < fashS ys) : lastsP (t.map (addAt c b)) ys = lastsP t ys := by
  unfold lastsP
  rw [shift_best hok hc hy, List.length_map]
  congr 1
  obtain ⟨_, _, p1, p2, _⟩ := parts_ok (o := fashS ys) (b := bestS t ys) hok.2.1 h0 (fashS_lt hy) bestS_lt
  rw [tailP_W, tailP_W]
  exact tailW_congr _ fun i hi k hk => shift_way hok hc p1 (p2 i hi) (p2 k hk)
omit hc in
theorem shift_ok (_hc : c < t.length) (hg : ∀ r ∈ t, goodAt c b r) : okTab (t.map (addAt c b)) := by
  refine ⟨by rw [List.length_map]; exact hok.1, by rw [List.length_map]; exact hok.2.1, fun r hr => ?_⟩
  obtain ⟨q, hq, rfl⟩ := List.mem_map.1 hr
  obtain ⟨l1, b1⟩ := hok.2.2 q hq
  have g := hg q hq
  refine ⟨by rw [List.length_map]; simpa [addAt] using l1, fun x hx => ?_⟩
  rcases List.mem_or_eq_of_mem_set hx with h | h
  · exact b1 x h
  · rw [h]; exact g
theorem shift_ask (hg : ∀ r ∈ t, goodAt c b r) (ps : List (List Int × Int)) : askS (t.map (addAt c b)) ps = askS t ps := by
  unfold askS
  rw [List.length_map, decide_eq_true (shift_ok hok hc hg), decide_eq_true hok]
end

theorem sorted_eq {α : Type} {f : α → Nat} : ∀ {l1 l2 : List α}, l1.Pairwise (fun x y => f x < f y) → l2.Pairwise (fun x y => f x < f y) → (∀ x, x ∈ l1 ↔ x ∈ l2) → l1 = l2
  | [], [], _, _, _ => rfl
  | [], x :: l, _, _, h => absurd ((h x).2 List.mem_cons_self) (by simp)
  | x :: l, [], _, _, h => absurd ((h x).1 List.mem_cons_self) (by simp)
  | x :: l1, y :: l2, h1, h2, h => by
    rw [List.pairwise_cons] at h1 h2
    have e : x = y := by
      refine Classical.byContradiction fun hne => ?_
      have a := (h x).1 List.mem_cons_self
      have b := (h y).2 List.mem_cons_self
      have a := (List.mem_cons.1 a).resolve_left hne
      have b := (List.mem_cons.1 b).resolve_left (Ne.symm hne)
      have := h1.1 y b
      have := h2.1 x a
      omega
    subst e
    rw [sorted_eq h1.2 h2.2 fun z => ?_]
    constructor
    · intro hz
      have := h1.1 z hz
      exact (List.mem_cons.1 ((h z).1 (List.mem_cons_of_mem _ hz))).resolve_left (fun e => by subst e; omega)
    · intro hz
      have := h2.1 z hz
      exact (List.mem_cons.1 ((h z).2 (List.mem_cons_of_mem _ hz))).resolve_left (fun e => by subst e; omega)

theorem shift_lasting {t : List (List Int)} {c : Nat} {b : Int} (hok : okTab t) (hc : c < t.length) (hg : ∀ r ∈ t, goodAt c b r) : lastingS (t.map (addAt c b)) = lastingS t := by
  have hok' := shift_ok hok hc hg
  refine sorted_eq (f := fun x => fashS x.1) (lasting_order hok') (lasting_order hok) fun x => ?_
  rw [lasting_mem hok', lasting_mem hok, shift_ask hok hc hg]
  constructor
  · rintro ⟨h1, h2⟩
    obtain ⟨_, m⟩ := ask1 h1
    exact ⟨h1, by rw [← shift_lasts (b := b) hok hc (mix_ok m).1 (mix_fash m)]; exact h2⟩
  · rintro ⟨h1, h2⟩
    obtain ⟨_, m⟩ := ask1 h1
    exact ⟨h1, by rw [shift_lasts hok hc (mix_ok m).1 (mix_fash m)]; exact h2⟩
theorem shift_limit {t : List (List Int)} {c : Nat} {b : Int} {x y : List Int × Int} (hok : okTab t) (hc : c < t.length) (hg : ∀ r ∈ t, goodAt c b r) (ha : askS t [x, y] = true) : limR (t.map (addAt c b)) x y = limR t x y := by
  obtain ⟨_, mx, my⟩ := ask2 ha
  obtain ⟨lx, _, _, _, sx, _⟩ := mix_ok mx
  obtain ⟨ly, _, _, _, sy, _⟩ := mix_ok my
  unfold limR
  rw [shift_ask hok hc hg]
  have p : pS (t.map (addAt c b)) x y = pS t x y := by
    unfold pS
    rw [shift_gain hok hc lx lx, shift_gain hok hc ly lx, sx, sy]
    grind
  have q : qS (t.map (addAt c b)) x y = qS t x y := by
    unfold qS
    rw [shift_gain hok hc lx ly, shift_gain hok hc ly ly, sx, sy]
    grind
  rw [p, q]

/-! ### renamed -/
def renX (x : List Int) (l : List Int) : List Int := l.map fun i => x.getD i.toNat 0
structure RenA (t : List (List Int)) (l m : List Int) : Prop where
  ok : okTab (renT t l)
  len : (renT t l).length = t.length
  xlen : ∀ X : List Int, X.length = t.length → (renX X l).length = t.length
  ren : ∀ X : List Int, X.length = t.length → Ren t (renT t l) l X (renX X l)
  gain : ∀ X Z : List Int, X.length = t.length → Z.length = t.length → gainS (renT t l) (renX X l) (renX Z l) = gainS t X Z
  ord : isOrd t.length m = true
  back : renT (renT t l) m = t
  xback : ∀ X : List Int, X.length = t.length → renX (renX X l) m = X
  xback2 : ∀ X : List Int, X.length = t.length → renX (renX X m) l = X
theorem Ren.refl' {t : List (List Int)} {l X : List Int} (h : ∀ j, j < t.length → (l.getD j 0).toNat = j) : Ren t t l X X := ⟨fun _ => rfl, fun j hj => by rw [h j hj], rfl, fun _ => rfl⟩
end Go.X
