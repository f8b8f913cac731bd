import Derived.Test.YtmedpfjiidlidaaXK
/-! Lists that grow; bits. -/
set_option linter.unusedSimpArgs false
set_option linter.unusedVariables false
namespace Go.X
open Go Go.RowKit
section
variable {Y : Run} {H : Heap}

/-- A list that has grown by append: nil at first, then an object that lies at k or beyond. -/
def Gro (k e : Nat) (H : Heap) (v : AV) (n : Nat) (cells : List AV) : Prop :=
  cells.length = n * e ∧ ((n = 0 ∧ v = .nils) ∨ ∃ id ver, k ≤ id ∧ v = .sl id ver e 0 n none ∧ H[id]? = some ⟨ver, cells⟩)

theorem Gro.nil (k e : Nat) (H : Heap) : Gro k e H .nils 0 [] := ⟨by simp, .inl ⟨rfl, rfl⟩⟩

theorem Gro.len {k e n : Nat} {v : AV} {cells : List AV} (h : Gro k e H v n cells) : lenA v = some n := by
  rcases h.2 with ⟨rfl, rfl⟩ | ⟨id, ver, _, rfl, _⟩ <;> rfl

theorem content_all {id ver e n : Nat} {cells : List AV} (h : H[id]? = some ⟨ver, cells⟩) (hl : cells.length = n * e) : content H e (.sl id ver e 0 n none) = some cells := by
  simp only [content, h]
  rw [if_pos ⟨trivial, trivial, by omega⟩, List.drop_zero, List.take_of_length_le (by omega)]

theorem Gro.app {k e n bytes : Nat} {v : AV} {cells ys : List AV} (h : Gro k e H v n cells) (hk : k ≤ H.length) (hy : ys.length = e) (ho : ys.all one = true) (hn : n ≤ 1000000) (hb : bytes ≤ 1000) :
    ∃ v' H', appA (H ++ [⟨0, ys⟩]) e bytes v (.sl H.length 0 e 0 1 none) = some (v', H') ∧ Gro k e H' v' (n + 1) (cells ++ ys) ∧ (∀ j, j < k → H'[j]? = H[j]?) ∧ H.length ≤ H'.length := by
  have hc : content (H ++ [⟨0, ys⟩]) e (.sl H.length 0 e 0 1 none) = some ys := content_all (by simp) (by omega)
  have hb2 : (n + 1) * bytes ≤ 1000001 * 1000 := Nat.mul_le_mul (by omega) hb
  have hcond : (n + 1) * bytes ≤ 140737488355328 ∧ n + 1 ≤ 9223372036854775807 ∧ ys.all one = true := ⟨by omega, by omega, ho⟩
  have hlen : lenA (.sl H.length 0 e 0 1 none) = some 1 := rfl
  have h2 := h.len
  obtain ⟨h1, ⟨rfl, rfl⟩ | ⟨id, ver, hid, rfl, hH⟩⟩ := h
  · have : cells = [] := List.eq_nil_of_length_eq_zero (by omega)
    subst this
    refine ⟨.sl (H.length + 1) 0 e 0 1 none, (H ++ [⟨0, ys⟩]) ++ [⟨0, ys⟩], ?_, ⟨by simp [hy], .inr ⟨H.length + 1, 0, by omega, rfl, ?_⟩⟩, fun j hj => ?_, by simp⟩
    · simp only [appA, h2, hlen, hc]
      rw [if_neg (by decide), if_pos hcond]
      simp
    · rw [List.getElem?_append_right (by simp)]; simp
    · rw [List.append_assoc, List.getElem?_append_left (by omega)]
  · have hlt : id < H.length := by
      rcases Nat.lt_or_ge id H.length with h | h
      · exact h
      · rw [List.getElem?_eq_none h] at hH; cases hH
    have hH' : (H ++ [⟨0, ys⟩])[id]? = some ⟨ver, cells⟩ := by rw [List.getElem?_append_left hlt]; exact hH
    refine ⟨.sl id (ver + 1) e 0 (n + 1) none, (H ++ [(⟨0, ys⟩ : Ob)]).set id ⟨ver + 1, cells ++ ys⟩, ?_, ⟨?_, .inr ⟨id, ver + 1, hid, rfl, ?_⟩⟩, fun j hj => ?_, by simp⟩
    · simp only [appA, h2, hlen, hc]
      rw [if_neg (by decide), if_pos hcond]
      simp only [hH']
      rw [if_pos ⟨trivial, trivial, trivial, by omega⟩]
    · rw [List.length_append, h1, hy, Nat.add_mul]; omega
    · rw [List.getElem?_set_self (by simp; omega)]
    · rw [List.getElem?_set_ne (by omega), List.getElem?_append_left (by omega)]

def idOf : AV → Option Nat
  | .sl id _ _ _ _ _ => some id
  | _ => none

/-- Two lists that do not share. -/
def apartW (v w : AV) : Prop := ∀ j, idOf v = some j → idOf w ≠ some j

theorem Gro.id_lt {k e n j : Nat} {v : AV} {cells : List AV} (h : Gro k e H v n cells) (hj : idOf v = some j) : j < H.length := by
  obtain ⟨h1, ⟨rfl, rfl⟩ | ⟨id, ver, hid, rfl, hH⟩⟩ := h
  · cases hj
  · cases hj
    rcases Nat.lt_or_ge j H.length with h | h
    · exact h
    · rw [List.getElem?_eq_none h] at hH; cases hH

theorem Gro.keep {k e n : Nat} {v : AV} {cells : List AV} {H' : Heap} (h : Gro k e H v n cells) (hk : ∀ j, idOf v = some j → H'[j]? = H[j]?) : Gro k e H' v n cells := by
  obtain ⟨h1, h2 | ⟨id, ver, hid, rfl, hH⟩⟩ := h
  · exact ⟨h1, .inl h2⟩
  · exact ⟨h1, .inr ⟨id, ver, hid, rfl, by rw [hk id rfl]; exact hH⟩⟩

/-- One more, and what else stands. -/
theorem Gro.app2 {k e n bytes : Nat} {v : AV} {cells ys : List AV} (h : Gro k e H v n cells) (hk : k ≤ H.length) (hy : ys.length = e) (ho : ys.all one = true) (hn : n ≤ 1000000) (hb : bytes ≤ 1000) :
    ∃ v' H', appA (H ++ [⟨0, ys⟩]) e bytes v (.sl H.length 0 e 0 1 none) = some (v', H') ∧ Gro k e H' v' (n + 1) (cells ++ ys) ∧ (∀ j, j < H.length → idOf v ≠ some j → H'[j]? = H[j]?) ∧ H.length ≤ H'.length ∧ (idOf v' = idOf v ∨ ∃ j, idOf v' = some j ∧ H.length ≤ j) := by
  have hc : content (H ++ [⟨0, ys⟩]) e (.sl H.length 0 e 0 1 none) = some ys := content_all (by simp) (by omega)
  have hb2 : (n + 1) * bytes ≤ 1000001 * 1000 := Nat.mul_le_mul (by omega) hb
  have hcond : (n + 1) * bytes ≤ 140737488355328 ∧ n + 1 ≤ 9223372036854775807 ∧ ys.all one = true := ⟨by omega, by omega, ho⟩
  have hlen : lenA (.sl H.length 0 e 0 1 none) = some 1 := rfl
  have h2 := h.len
  obtain ⟨h1, ⟨rfl, rfl⟩ | ⟨id, ver, hid, rfl, hH⟩⟩ := h
  · have : cells = [] := List.eq_nil_of_length_eq_zero (by omega)
    subst this
    refine ⟨.sl (H.length + 1) 0 e 0 1 none, (H ++ [⟨0, ys⟩]) ++ [⟨0, ys⟩], ?_, ⟨by simp [hy], .inr ⟨H.length + 1, 0, by omega, rfl, ?_⟩⟩, fun j hj _ => ?_, by simp, .inr ⟨H.length + 1, rfl, by omega⟩⟩
    · simp only [appA, h2, hlen, hc]
      rw [if_neg (by decide), if_pos hcond]
      simp
    · rw [List.getElem?_append_right (by simp)]; simp
    · rw [List.append_assoc, List.getElem?_append_left (by omega)]
  · have hlt : id < H.length := by
      rcases Nat.lt_or_ge id H.length with h | h
      · exact h
      · rw [List.getElem?_eq_none h] at hH; cases hH
    have hH' : (H ++ [⟨0, ys⟩])[id]? = some ⟨ver, cells⟩ := by rw [List.getElem?_append_left hlt]; exact hH
    refine ⟨.sl id (ver + 1) e 0 (n + 1) none, (H ++ [(⟨0, ys⟩ : Ob)]).set id ⟨ver + 1, cells ++ ys⟩, ?_, ⟨?_, .inr ⟨id, ver + 1, hid, rfl, ?_⟩⟩, fun j hj hne => ?_, by simp, .inl rfl⟩
    · simp only [appA, h2, hlen, hc]
      rw [if_neg (by decide), if_pos hcond]
      simp only [hH']
      rw [if_pos ⟨trivial, trivial, trivial, by omega⟩]
    · rw [List.length_append, h1, hy, Nat.add_mul]; omega
    · rw [List.getElem?_set_self (by simp; omega)]
    · have : id ≠ j := fun e => hne (by rw [e]; rfl)
      rw [List.getElem?_set_ne this, List.getElem?_append_left hj]

/-- An element's place. -/
def gptr (e : Nat) (v : AV) (i : Nat) : AV := match v with
  | .sl id ver _ _ _ _ => .ptr id ver (i * e)
  | _ => .undef

theorem Gro.idx {k e n i : Nat} {v : AV} {cells : List AV} (h : Gro k e H v n cells) (hi : i < n) : idxA e v (.int .i64 (i : Int)) = some (gptr e v i) := by
  obtain ⟨h1, ⟨rfl, rfl⟩ | ⟨id, ver, hid, rfl, hH⟩⟩ := h
  · omega
  · simp only [idxA, natOf_nat, gptr]
    rw [if_pos ⟨trivial, hi⟩, Nat.zero_add]

theorem Gro.load {k n i : Nat} {v : AV} {cells : List AV} (h : Gro k 1 H v n cells) (hi : i < n) : loadA H none (gptr 1 v i) = some (cells.getD i .undef) := by
  obtain ⟨h1, ⟨rfl, rfl⟩ | ⟨id, ver, hid, rfl, hH⟩⟩ := h
  · omega
  · have hlt : i < cells.length := by omega
    have h2 : (cells.drop (i * 1)).take 1 = [cells[i]] := by rw [Nat.mul_one, List.drop_eq_getElem_cons hlt]; rfl
    simp only [gptr, load_ptr, cellsAt, hH]
    rw [if_pos ⟨trivial, by omega⟩, h2]
    simp [firstX, List.getD_eq_getElem?_getD, hlt]

theorem Gro.snap {k n d : Nat} {v : AV} {l : List Int} (h : Gro k 1 H v n (l.map vI)) : (n = 0 ∧ v = .nils) ∨ snapA H (d + 2) v = some (.imm true (l.map vI) l.length) := by
  obtain ⟨h1, h | ⟨id, ver, hid, rfl, hH⟩⟩ := h
  · exact .inl h
  · right
    have hn : n = l.length := by simpa using h1.symm
    subst hn
    rw [snap_sl, hH, snapS_some, if_pos (by simp), List.drop_zero, Nat.mul_one, List.take_of_length_le (by simp), mapM_snap, snapB_some]

theorem heap_first {X : Ob} (h : H[0]? = some X) : ∃ R, H = X :: R := by
  cases H with
  | nil => simp at h
  | cons a R => simp at h; exact ⟨R, by rw [h]⟩

/-! ### Bits -/
theorem shrW {s i : Nat} (hi : i < 60) : binA .shr (vI s) (vI i) = some (vI ((s / 2 ^ i : Nat) : Int)) := by
  simp only [binA, Int.toNat_natCast, IntKind.bits]
  rw [if_pos (by omega), Nat.min_eq_left (by omega)]
  have h1 : (2 : Int) ^ i = ((2 ^ i : Nat) : Int) := by simp
  have : Int.fdiv (s : Int) ((2 ^ i : Nat) : Int) = ((s / 2 ^ i : Nat) : Int) := by
    rw [Int.fdiv_eq_ediv_of_nonneg _ (Int.natCast_nonneg _)]; rfl
  rw [h1, this]

theorem and1W {s : Nat} (hs : s < 4611686018427387904) : binA .and (vI s) (vI 1) = some (vI ((s % 2 : Nat) : Int)) := by
  show some (AV.int .i64 (IntKind.wrap .i64 ((BitVec.ofInt 64 (s : Int) &&& BitVec.ofInt 64 ((1 : Nat) : Int)).toNat : Int))) = _
  rw [ofInt_nat, ofInt_nat, BitVec.toNat_and, BitVec.toNat_ofNat, BitVec.toNat_ofNat, Nat.mod_eq_of_lt (by omega), Nat.mod_eq_of_lt (by decide), Nat.and_one_is_mod, wrap_id (by omega) (by omega)]

theorem rem2W {s : Nat} : binA .rem (vI s) (vI 2) = some (vI ((s % 2 : Nat) : Int)) := by
  simp only [binA, if_true]
  rw [if_pos (by decide)]
  rfl
end
end Go.X
