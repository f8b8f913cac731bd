import Derived.Test.YtppekkocioidkaaXE
import Derived.Test.YtppekkocioidkaaQC
/-! Lists and tables that live in the small machine's heap. -/
set_option linter.unusedSimpArgs false
set_option linter.unusedVariables false
set_option maxHeartbeats 1000000
namespace Go.X
open Go Go.RowKit
section
variable {Y : Run} {H : Heap}

theorem get_last {o : Ob} : (H ++ [o])[H.length]? = some o := by simp
theorem set_last {o o' : Ob} : (H ++ [o]).set H.length o' = H ++ [o'] := by
  rw [List.set_append_right _ _ (Nat.le_refl _)]; simp
theorem zeros_int {n : Nat} : zerosA [vI 0] n = (List.replicate n (0 : Int)).map vI := by
  apply List.ext_getElem
  · simp [zerosA]
  · intro i h1 h2
    simp [zerosA, Nat.mod_one]
theorem mapM_snap {n : Nat} : ∀ (l : List Int), (l.map vI).mapM (snapA H (n + 1)) = some (l.map vI)
  | [] => rfl
  | x :: l => by rw [List.map_cons, mapM_cons', snap_int, mapM_snap l]; rfl
theorem mapM_free {n : Nat} : ∀ (l : List Int), (l.map vI).mapM (freeA H (n + 1)) = some (l.map vI)
  | [] => rfl
  | x :: l => by rw [List.map_cons, mapM_cons', free_int, mapM_free l]; rfl
theorem mapM_shift {n d : Nat} : ∀ (l : List Int), (l.map vI).mapM (shiftA n (d + 1)) = some (l.map vI)
  | [] => rfl
  | x :: l => by rw [List.map_cons, mapM_cons', mapM_shift l]; rfl
theorem ones_all : ∀ (l : List Int), (l.map vI).all one = true
  | [] => rfl
  | x :: l => by rw [List.map_cons, List.all_cons, ones_all l]; rfl
theorem mapM_rng {f : AV → Option AV} : ∀ (l : List AV) (g : Nat → AV), (∀ j, j < l.length → f (l.getD j .undef) = some (g j)) → l.mapM f = some ((List.range l.length).map g)
  | [], _, _ => rfl
  | c :: l, g, h => by
    have h0 := h 0 (by simp)
    have h1 := mapM_rng l (fun j => g (j + 1)) fun j hj => h (j + 1) (by simpa using hj)
    rw [mapM_cons', h1]
    have : f c = some (g 0) := h0
    rw [this]
    simp [consO, List.range_succ_eq_map, Function.comp_def]
theorem IsRow.content {v : AV} {l : List Int} (h : IsRow v l) : content H 1 v = some (l.map vI) := by
  cases h with
  | nil => rfl
  | imm sn l => simp only [Go.X.content]; rw [if_pos (by simp), List.take_of_length_le (by simp)]
theorem IsRow.one {v : AV} {l : List Int} (h : IsRow v l) : one v = true ∧ isU v = false ∧ cellsOf v = [v] := by cases h <;> exact ⟨rfl, rfl, rfl⟩
theorem IsTab.one {v : AV} {t : List (List Int)} (h : IsTab v t) : one v = true ∧ isU v = false ∧ cellsOf v = [v] := by cases h <;> exact ⟨rfl, rfl, rfl⟩
theorem snap_cptr {n : Nat} {s : Bool} {cs : List AV} : snapA H (n + 1) (.cptr s cs) = some (.cptr s cs) := rfl
theorem getD_get {α : Type} {l : List α} {i : Nat} {d : α} (h : i < l.length) : l.getD i d = l[i] := by simp [List.getD_eq_getElem?_getD, h]
theorem hlt_of {id : Nat} {o : Ob} (h : H[id]? = some o) : id < H.length := by
  rcases Nat.lt_or_ge id H.length with h1 | h1
  · exact h1
  · rw [List.getElem?_eq_none h1] at h; cases h

/-- A list that has grown by append: nil at first, then an object that lies at k or beyond. -/
def Gro (k e : Nat) (H : Heap) (v : AV) (n : Nat) (cells : List AV) : Prop :=
  cells.length = n * e ∧ ((n = 0 ∧ v = .nils) ∨ ∃ id ver, k ≤ id ∧ v = .sl id ver e 0 n none ∧ H[id]? = some ⟨ver, cells⟩)

theorem Gro.nil (k e : Nat) (H : Heap) : Gro k e H .nils 0 [] := ⟨by simp, .inl ⟨rfl, rfl⟩⟩

theorem Gro.len {k e n : Nat} {v : AV} {cells : List AV} (h : Gro k e H v n cells) : lenA v = some n := by
  rcases h.2 with ⟨rfl, rfl⟩ | ⟨id, ver, _, rfl, _⟩ <;> rfl

theorem content_all {id ver e n : Nat} {cells : List AV} (h : H[id]? = some ⟨ver, cells⟩) (hl : cells.length = n * e) : content H e (.sl id ver e 0 n none) = some cells := by
  simp only [content, h]
  rw [if_pos ⟨trivial, trivial, by omega⟩, List.drop_zero, List.take_of_length_le (by omega)]

theorem Gro.app {k e n bytes : Nat} {v : AV} {cells ys : List AV} (h : Gro k e H v n cells) (hk : k ≤ H.length) (hy : ys.length = e) (ho : ys.all one = true) (hn : n ≤ 1000000) (hb : bytes ≤ 1000) :
    ∃ v' H', appA (H ++ [⟨0, ys⟩]) e bytes v (.sl H.length 0 e 0 1 none) = some (v', H') ∧ Gro k e H' v' (n + 1) (cells ++ ys) ∧ (∀ j, j < k → H'[j]? = H[j]?) ∧ H.length ≤ H'.length := by
  have hc : content (H ++ [⟨0, ys⟩]) e (.sl H.length 0 e 0 1 none) = some ys := content_all (by simp) (by omega)
  have hb2 : (n + 1) * bytes ≤ 1000001 * 1000 := Nat.mul_le_mul (by omega) hb
  have hcond : (n + 1) * bytes ≤ 140737488355328 ∧ n + 1 ≤ 9223372036854775807 ∧ ys.all one = true := ⟨by omega, by omega, ho⟩
  have hlen : lenA (.sl H.length 0 e 0 1 none) = some 1 := rfl
  have h2 := h.len
  obtain ⟨h1, ⟨rfl, rfl⟩ | ⟨id, ver, hid, rfl, hH⟩⟩ := h
  · have : cells = [] := List.eq_nil_of_length_eq_zero (by omega)
    subst this
    refine ⟨.sl (H.length + 1) 0 e 0 1 none, (H ++ [⟨0, ys⟩]) ++ [⟨0, ys⟩], ?_, ⟨by simp [hy], .inr ⟨H.length + 1, 0, by omega, rfl, ?_⟩⟩, fun j hj => ?_, by simp⟩
    · simp only [appA, h2, hlen, hc]
      rw [if_neg (by decide), if_pos hcond]
      simp
    · rw [List.getElem?_append_right (by simp)]; simp
    · rw [List.append_assoc, List.getElem?_append_left (by omega)]
  · have hlt : id < H.length := by
      rcases Nat.lt_or_ge id H.length with h | h
      · exact h
      · rw [List.getElem?_eq_none h] at hH; cases hH
    have hH' : (H ++ [⟨0, ys⟩])[id]? = some ⟨ver, cells⟩ := by rw [List.getElem?_append_left hlt]; exact hH
    refine ⟨.sl id (ver + 1) e 0 (n + 1) none, (H ++ [(⟨0, ys⟩ : Ob)]).set id ⟨ver + 1, cells ++ ys⟩, ?_, ⟨?_, .inr ⟨id, ver + 1, hid, rfl, ?_⟩⟩, fun j hj => ?_, by simp⟩
    · simp only [appA, h2, hlen, hc]
      rw [if_neg (by decide), if_pos hcond]
      simp only [hH']
      rw [if_pos ⟨trivial, trivial, trivial, by omega⟩]
    · rw [List.length_append, h1, hy, Nat.add_mul]; omega
    · rw [List.getElem?_set_self (by simp; omega)]
    · rw [List.getElem?_set_ne (by omega), List.getElem?_append_left (by omega)]

def idOf : AV → Option Nat
  | .sl id _ _ _ _ _ => some id
  | _ => none

/-- Two lists that do not share. -/
def apartW (v w : AV) : Prop := ∀ j, idOf v = some j → idOf w ≠ some j

theorem Gro.id_lt {k e n j : Nat} {v : AV} {cells : List AV} (h : Gro k e H v n cells) (hj : idOf v = some j) : j < H.length := by
  obtain ⟨h1, ⟨rfl, rfl⟩ | ⟨id, ver, hid, rfl, hH⟩⟩ := h
  · cases hj
  · cases hj
    rcases Nat.lt_or_ge j H.length with h | h
    · exact h
    · rw [List.getElem?_eq_none h] at hH; cases hH

theorem Gro.keep {k e n : Nat} {v : AV} {cells : List AV} {H' : Heap} (h : Gro k e H v n cells) (hk : ∀ j, idOf v = some j → H'[j]? = H[j]?) : Gro k e H' v n cells := by
  obtain ⟨h1, h2 | ⟨id, ver, hid, rfl, hH⟩⟩ := h
  · exact ⟨h1, .inl h2⟩
  · exact ⟨h1, .inr ⟨id, ver, hid, rfl, by rw [hk id rfl]; exact hH⟩⟩

/-- One more, and what else stands. -/
theorem Gro.app2 {k e n bytes : Nat} {v : AV} {cells ys : List AV} (h : Gro k e H v n cells) (hk : k ≤ H.length) (hy : ys.length = e) (ho : ys.all one = true) (hn : n ≤ 1000000) (hb : bytes ≤ 1000) :
    ∃ v' H', appA (H ++ [⟨0, ys⟩]) e bytes v (.sl H.length 0 e 0 1 none) = some (v', H') ∧ Gro k e H' v' (n + 1) (cells ++ ys) ∧ (∀ j, j < H.length → idOf v ≠ some j → H'[j]? = H[j]?) ∧ H.length ≤ H'.length ∧ (idOf v' = idOf v ∨ ∃ j, idOf v' = some j ∧ H.length ≤ j) := by
  have hc : content (H ++ [⟨0, ys⟩]) e (.sl H.length 0 e 0 1 none) = some ys := content_all (by simp) (by omega)
  have hb2 : (n + 1) * bytes ≤ 1000001 * 1000 := Nat.mul_le_mul (by omega) hb
  have hcond : (n + 1) * bytes ≤ 140737488355328 ∧ n + 1 ≤ 9223372036854775807 ∧ ys.all one = true := ⟨by omega, by omega, ho⟩
  have hlen : lenA (.sl H.length 0 e 0 1 none) = some 1 := rfl
  have h2 := h.len
  obtain ⟨h1, ⟨rfl, rfl⟩ | ⟨id, ver, hid, rfl, hH⟩⟩ := h
  · have : cells = [] := List.eq_nil_of_length_eq_zero (by omega)
    subst this
    refine ⟨.sl (H.length + 1) 0 e 0 1 none, (H ++ [⟨0, ys⟩]) ++ [⟨0, ys⟩], ?_, ⟨by simp [hy], .inr ⟨H.length + 1, 0, by omega, rfl, ?_⟩⟩, fun j hj _ => ?_, by simp, .inr ⟨H.length + 1, rfl, by omega⟩⟩
    · simp only [appA, h2, hlen, hc]
      rw [if_neg (by decide), if_pos hcond]
      simp
    · rw [List.getElem?_append_right (by simp)]; simp
    · rw [List.append_assoc, List.getElem?_append_left (by omega)]
  · have hlt : id < H.length := by
      rcases Nat.lt_or_ge id H.length with h | h
      · exact h
      · rw [List.getElem?_eq_none h] at hH; cases hH
    have hH' : (H ++ [⟨0, ys⟩])[id]? = some ⟨ver, cells⟩ := by rw [List.getElem?_append_left hlt]; exact hH
    refine ⟨.sl id (ver + 1) e 0 (n + 1) none, (H ++ [(⟨0, ys⟩ : Ob)]).set id ⟨ver + 1, cells ++ ys⟩, ?_, ⟨?_, .inr ⟨id, ver + 1, hid, rfl, ?_⟩⟩, fun j hj hne => ?_, by simp, .inl rfl⟩
    · simp only [appA, h2, hlen, hc]
      rw [if_neg (by decide), if_pos hcond]
      simp only [hH']
      rw [if_pos ⟨trivial, trivial, trivial, by omega⟩]
    · rw [List.length_append, h1, hy, Nat.add_mul]; omega
    · rw [List.getElem?_set_self (by simp; omega)]
    · have : id ≠ j := fun e => hne (by rw [e]; rfl)
      rw [List.getElem?_set_ne this, List.getElem?_append_left hj]

/-- An element's place. -/
def gptr (e : Nat) (v : AV) (i : Nat) : AV := match v with
  | .sl id ver _ _ _ _ => .ptr id ver (i * e)
  | _ => .undef

theorem Gro.idx {k e n i : Nat} {v : AV} {cells : List AV} (h : Gro k e H v n cells) (hi : i < n) : idxA e v (.int .i64 (i : Int)) = some (gptr e v i) := by
  obtain ⟨h1, ⟨rfl, rfl⟩ | ⟨id, ver, hid, rfl, hH⟩⟩ := h
  · omega
  · simp only [idxA, natOf_nat, gptr]
    rw [if_pos ⟨trivial, hi⟩, Nat.zero_add]

theorem Gro.load {k n i : Nat} {v : AV} {cells : List AV} (h : Gro k 1 H v n cells) (hi : i < n) : loadA H none (gptr 1 v i) = some (cells.getD i .undef) := by
  obtain ⟨h1, ⟨rfl, rfl⟩ | ⟨id, ver, hid, rfl, hH⟩⟩ := h
  · omega
  · have hlt : i < cells.length := by omega
    have h2 : (cells.drop (i * 1)).take 1 = [cells[i]] := by rw [Nat.mul_one, List.drop_eq_getElem_cons hlt]; rfl
    simp only [gptr, load_ptr, cellsAt, hH]
    rw [if_pos ⟨trivial, by omega⟩, h2]
    simp [firstX, List.getD_eq_getElem?_getD, hlt]

theorem Gro.snap {k n d : Nat} {v : AV} {l : List Int} (h : Gro k 1 H v n (l.map vI)) : (n = 0 ∧ v = .nils) ∨ snapA H (d + 2) v = some (.imm true (l.map vI) l.length) := by
  obtain ⟨h1, h | ⟨id, ver, hid, rfl, hH⟩⟩ := h
  · exact .inl h
  · right
    have hn : n = l.length := by simpa using h1.symm
    subst hn
    rw [snap_sl, hH, snapS_some, if_pos (by simp), List.drop_zero, Nat.mul_one, List.take_of_length_le (by simp), mapM_snap, snapB_some]
theorem Gro.more {k e n : Nat} {v : AV} {cells : List AV} (h : Gro k e H v n cells) (o : Ob) : Gro k e (H ++ [o]) v n cells :=
  h.keep fun j hj => by rw [List.getElem?_append_left (h.id_lt hj)]

/-- A list that is handed out. -/
def IsLst (w : AV) (n : Nat) (cells : List AV) : Prop := (n = 0 ∧ w = .nils) ∨ ∃ s, w = .imm s cells n

theorem mapM_id {f : AV → Option AV} : ∀ (l : List AV), (∀ c ∈ l, f c = some c) → l.mapM f = some l
  | [], _ => rfl
  | c :: l, h => by rw [mapM_cons', h c (by simp), mapM_id l fun c hc => h c (List.mem_cons_of_mem _ hc)]; rfl

theorem Gro.freeL {k e n d : Nat} {v : AV} {cells : List AV} (h : Gro k e H v n cells) (hc : ∀ c ∈ cells, freeA H (d + 1) c = some c) : ∃ w, freeA H (d + 2) v = some w ∧ IsLst w n cells := by
  obtain ⟨h1, ⟨rfl, rfl⟩ | ⟨id, ver, hid, rfl, hH⟩⟩ := h
  · exact ⟨.nils, rfl, .inl ⟨rfl, rfl⟩⟩
  · exact ⟨.imm false cells n, by rw [free_sl, hH, freeS_some, if_pos (by simp; omega), List.drop_zero, List.take_of_length_le (by omega), mapM_id _ hc, freeB_some], .inr ⟨false, rfl⟩⟩

/-- A mixture's two cells. -/

theorem Gro.free {k n d : Nat} {v : AV} {l : List Int} (h : Gro k 1 H v n (l.map vI)) : ∃ w, freeA H (d + 2) v = some w ∧ IsRow w l := by
  obtain ⟨h1, ⟨rfl, rfl⟩ | ⟨id, ver, hid, rfl, hH⟩⟩ := h
  · have : l = [] := by cases l with | nil => rfl | cons a l => simp at h1
    subst this; exact ⟨.nils, rfl, .nil⟩
  · have hn : n = l.length := by simpa using h1.symm
    subst hn
    exact ⟨.imm false (l.map vI) l.length, by rw [free_sl, hH, freeS_some, if_pos (by simp), List.drop_zero, Nat.mul_one, List.take_of_length_le (by simp), mapM_free, freeB_some], .imm false l⟩
theorem Gro.snapRow {k n d : Nat} {v : AV} {l : List Int} (h : Gro k 1 H v n (l.map vI)) : ∃ w, snapA H (d + 2) v = some w ∧ IsRow w l := by
  obtain ⟨h1, ⟨rfl, rfl⟩ | ⟨id, ver, hid, rfl, hH⟩⟩ := h
  · have : l = [] := by cases l with | nil => rfl | cons a l => simp at h1
    subst this; exact ⟨.nils, rfl, .nil⟩
  · have hn : n = l.length := by simpa using h1.symm
    subst hn
    exact ⟨.imm true (l.map vI) l.length, by rw [snap_sl, hH, snapS_some, if_pos (by simp), List.drop_zero, Nat.mul_one, List.take_of_length_le (by simp), mapM_snap, snapB_some], .imm true l⟩
theorem Gro.one {k e n : Nat} {v : AV} {cells : List AV} (h : Gro k e H v n cells) : one v = true ∧ isU v = false ∧ cellsOf v = [v] := by
  obtain ⟨h1, ⟨rfl, rfl⟩ | ⟨id, ver, hid, rfl, hH⟩⟩ := h <;> exact ⟨rfl, rfl, rfl⟩
theorem Gro.ge {k e n j : Nat} {v : AV} {cells : List AV} (h : Gro k e H v n cells) (hj : idOf v = some j) : k ≤ j := by
  obtain ⟨h1, ⟨rfl, rfl⟩ | ⟨id, ver, hid, rfl, hH⟩⟩ := h
  · cases hj
  · cases hj; exact hid

/-- A row made at once. -/
theorem Gro.made {k ver : Nat} {l : List Int} (h : H[k]? = some ⟨ver, l.map vI⟩) {k' : Nat} (hk : k' ≤ k) : Gro k' 1 H (.sl k ver 1 0 l.length none) l.length (l.map vI) :=
  ⟨by simp, .inr ⟨k, ver, hk, rfl, h⟩⟩

/-- A number is stored in a row. -/
theorem Gro.store {k n i : Nat} {v : AV} {l : List Int} {x : Int} (h : Gro k 1 H v n (l.map vI)) (hi : i < n) : ∃ id ver, idOf v = some id ∧ H[id]? = some ⟨ver, l.map vI⟩ ∧
    storeA H 1 (gptr 1 v i) (vI x) = some (H.set id ⟨ver, (l.set i x).map vI⟩) ∧ Gro k 1 (H.set id ⟨ver, (l.set i x).map vI⟩) v n ((l.set i x).map vI) := by
  obtain ⟨h1, ⟨rfl, rfl⟩ | ⟨id, ver, hid, rfl, hH⟩⟩ := h
  · omega
  · have hlt := hlt_of hH
    have hn : n = l.length := by simpa using h1.symm
    refine ⟨id, ver, rfl, hH, ?_, ⟨by simp; omega, .inr ⟨id, ver, hid, rfl, by rw [List.getElem?_set_self hlt]⟩⟩⟩
    simp only [gptr, storeA, hH, cellsOf, List.length_cons, List.length_nil, List.all_cons, List.all_nil, Go.X.one, putAll, List.length_map]
    rw [if_pos (by simp; omega)]
    simp [List.map_set]

/-! ### Tables -/
structure HTab (k : Nat) (R : Heap) (v : AV) (t : List (List Int)) (cells : List AV) : Prop where
  gro : Gro k 1 R v t.length cells
  row : ∀ j (h : j < t.length), Gro k 1 R (cells.getD j .undef) t[j].length (t[j].map vI)
  ne : ∀ j i, j < t.length → idOf (cells.getD j .undef) = some i → idOf v ≠ some i
  inj : ∀ j l i, j < t.length → l < t.length → j ≠ l → idOf (cells.getD j .undef) = some i → idOf (cells.getD l .undef) ≠ some i

theorem HTab.nil (k : Nat) (R : Heap) : HTab k R .nils [] [] := ⟨Gro.nil _ _ _, fun j h => by simp at h, fun j i h => by simp at h, fun j l i h => by simp at h⟩

theorem HTab.clen {k : Nat} {R : Heap} {v : AV} {t : List (List Int)} {cells : List AV} (h : HTab k R v t cells) : cells.length = t.length := by have := h.gro.1; omega

/-- What touches none of it leaves it. -/
theorem HTab.keep {k : Nat} {R R' : Heap} {v : AV} {t : List (List Int)} {cells : List AV} (h : HTab k R v t cells) (h0 : ∀ i, idOf v = some i → R'[i]? = R[i]?) (h1 : ∀ j i, j < t.length → idOf (cells.getD j .undef) = some i → R'[i]? = R[i]?) : HTab k R' v t cells :=
  ⟨h.gro.keep h0, fun j hj => (h.row j hj).keep fun i hi => h1 j i hj hi, h.ne, h.inj⟩

theorem HTab.more {k : Nat} {R : Heap} {v : AV} {t : List (List Int)} {cells : List AV} (h : HTab k R v t cells) (o : List Ob) : HTab k (R ++ o) v t cells :=
  h.keep (fun i hi => List.getElem?_append_left (h.gro.id_lt hi)) fun j i hj hi => List.getElem?_append_left ((h.row j hj).id_lt hi)

theorem Gro.mores {k e n : Nat} {v : AV} {cells : List AV} (h : Gro k e H v n cells) (o : List Ob) : Gro k e (H ++ o) v n cells :=
  h.keep fun j hj => by rw [List.getElem?_append_left (h.id_lt hj)]

/-- One row more. -/
theorem HTab.add {k : Nat} {R : Heap} {v c : AV} {t : List (List Int)} {cells : List AV} {l : List Int} (h : HTab k R v t cells) (hk : k ≤ R.length) (hr : Gro k 1 R c l.length (l.map vI)) (hv : ∀ i, idOf c = some i → idOf v ≠ some i)
    (hc : ∀ j i, j < t.length → idOf (cells.getD j .undef) = some i → idOf c ≠ some i) (hl : t.length ≤ 1000) :
    ∃ v' R', appA (R ++ [⟨0, [c]⟩]) 1 24 v (.sl R.length 0 1 0 1 none) = some (v', R') ∧ HTab k R' v' (t ++ [l]) (cells ++ [c]) ∧ R.length ≤ R'.length ∧ (∀ j, j < R.length → idOf v ≠ some j → R'[j]? = R[j]?) ∧ (idOf v' = idOf v ∨ ∃ j, idOf v' = some j ∧ R.length ≤ j) := by
  have hone := hr.one
  obtain ⟨v', R', g1, g2, g3, g4, g5⟩ := h.gro.app2 (bytes := 24) (ys := [c]) hk rfl (by simp [hone.1]) (by omega) (by omega)
  have hlen := h.clen
  have e1 : ∀ j, j < t.length → (cells ++ [c]).getD j .undef = cells.getD j .undef := fun j hj => by
    rw [List.getD_eq_getElem?_getD, List.getElem?_append_left (by omega), ← List.getD_eq_getElem?_getD]
  have e2 : (cells ++ [c]).getD t.length .undef = c := by
    rw [List.getD_eq_getElem?_getD, List.getElem?_append_right (by omega), hlen]; simp
  have hne' : ∀ i, i < R.length → idOf v ≠ some i → idOf v' ≠ some i := by
    intro i h1 h2 h3
    rcases g5 with e | ⟨j, e, hj⟩
    · exact h2 (by rw [← e]; exact h3)
    · rw [e] at h3; cases h3; omega
  refine ⟨v', R', g1, ⟨by simpa using g2, fun j hj => ?_, fun j i hj hi => ?_, fun j m i hj hm hjm hi => ?_⟩, g4, g3, g5⟩
  · by_cases hlt : j < t.length
    · rw [e1 j hlt]
      have : (t ++ [l])[j] = t[j] := List.getElem_append_left hlt
      rw [this]
      exact (h.row j hlt).keep fun i hi => g3 i ((h.row j hlt).id_lt hi) (h.ne j i hlt hi)
    · have : j = t.length := by simp at hj; omega
      subst this
      rw [e2]
      have : (t ++ [l])[t.length] = l := by simp
      rw [this]
      exact hr.keep fun i hi => g3 i (hr.id_lt hi) (hv i hi)
  · by_cases hlt : j < t.length
    · rw [e1 j hlt] at hi
      exact hne' i ((h.row j hlt).id_lt hi) (h.ne j i hlt hi)
    · have : j = t.length := by simp at hj; omega
      subst this
      rw [e2] at hi
      exact hne' i (hr.id_lt hi) (hv i hi)
  · simp only [List.length_append, List.length_cons, List.length_nil] at hj hm
    by_cases h1 : j < t.length
    · rw [e1 j h1] at hi
      by_cases h2 : m < t.length
      · rw [e1 m h2]; exact h.inj j m i h1 h2 hjm hi
      · have : m = t.length := by omega
        subst this
        rw [e2]; exact hc j i h1 hi
    · have : j = t.length := by omega
      subst this
      rw [e2] at hi
      have h2 : m < t.length := by omega
      rw [e1 m h2]
      exact fun h3 => hc m i h2 h3 hi

/-- A number in a table. -/
theorem HTab.store {k i j : Nat} {R : Heap} {v : AV} {t : List (List Int)} {cells : List AV} {x : Int} (h : HTab k R v t cells) (hi : i < t.length) (hj : j < t[i].length) :
    ∃ id o, storeA R 1 (gptr 1 (cells.getD i .undef) j) (vI x) = some (R.set id o) ∧ HTab k (R.set id o) v (t.set i (t[i].set j x)) cells ∧ k ≤ id := by
  obtain ⟨id, ver, h1, h2, h3, h4⟩ := (h.row i hi).store (x := x) hj
  refine ⟨id, _, h3, ⟨?_, fun m hm => ?_, fun m a hm ha => h.ne m a (by simpa using hm) ha, fun m n a hm hn hmn ha => h.inj m n a (by simpa using hm) (by simpa using hn) hmn ha⟩, (h.row i hi).ge h1⟩
  · rw [List.length_set]
    exact h.gro.keep fun a ha => by
      have : id ≠ a := fun e => h.ne i id hi h1 (by rw [ha, e])
      rw [List.getElem?_set_ne this]
  · have hm' : m < t.length := by simpa using hm
    by_cases e : i = m
    · subst e
      have e2 : (t.set i (t[i].set j x))[i]'hm = t[i].set j x := by simp
      rw [e2, List.length_set]
      exact h4
    · have e2 : (t.set i (t[i].set j x))[m]'hm = t[m] := List.getElem_set_ne e _
      rw [e2]
      exact (h.row m hm').keep fun a ha => by
        have : id ≠ a := fun e3 => h.inj i m id hi hm' e h1 (by rw [ha, e3])
        rw [List.getElem?_set_ne this]

theorem HTab.idx {k i : Nat} {R : Heap} {v : AV} {t : List (List Int)} {cells : List AV} (h : HTab k R v t cells) (hi : i < t.length) : idxA 1 v (.int .i64 (i : Int)) = some (gptr 1 v i) := h.gro.idx hi
theorem HTab.load {k i : Nat} {R : Heap} {v : AV} {t : List (List Int)} {cells : List AV} (h : HTab k R v t cells) (hi : i < t.length) : loadA R none (gptr 1 v i) = some (cells.getD i .undef) := h.gro.load hi
theorem HTab.idx2 {k i j : Nat} {R : Heap} {v : AV} {t : List (List Int)} {cells : List AV} (h : HTab k R v t cells) (hi : i < t.length) (hj : j < t[i].length) : idxA 1 (cells.getD i .undef) (.int .i64 (j : Int)) = some (gptr 1 (cells.getD i .undef) j) := (h.row i hi).idx hj
theorem HTab.load2 {k i j : Nat} {R : Heap} {v : AV} {t : List (List Int)} {cells : List AV} (h : HTab k R v t cells) (hi : i < t.length) (hj : j < t[i].length) : loadA R none (gptr 1 (cells.getD i .undef) j) = some (vI t[i][j]) := by
  rw [(h.row i hi).load hj]
  simp [List.getD_eq_getElem?_getD, hj]

theorem tab_of_cells {s : Bool} {t : List (List Int)} {vs : List AV} (h : vs.length = t.length) (hr : ∀ j (h : j < t.length), IsRow (vs.getD j .undef) t[j]) : IsTab (.imm s vs t.length) t :=
  .imm s vs t h fun i hi => by rw [getD_get hi]; exact hr i hi

theorem HTab.out {k d : Nat} {R : Heap} {v : AV} {t : List (List Int)} {cells : List AV} (h : HTab k R v t cells) : (∃ w, freeA R (d + 3) v = some w ∧ IsTab w t) ∧ ∃ w, snapA R (d + 3) v = some w ∧ IsTab w t := by
  have hl := h.clen
  obtain ⟨h1, ⟨h0, rfl⟩ | ⟨id, ver, _, rfl, hH⟩⟩ := h.gro
  · have : t = [] := List.eq_nil_of_length_eq_zero h0
    subst this
    exact ⟨⟨.nils, rfl, .nil⟩, ⟨.nils, rfl, .nil⟩⟩
  · have f1 : ∀ j, ∃ w, j < t.length → freeA R (d + 2) (cells.getD j .undef) = some w ∧ IsRow w (t.getD j []) := fun j => by
      by_cases hj : j < t.length
      · obtain ⟨w, q1, q2⟩ := (h.row j hj).free (d := d)
        exact ⟨w, fun _ => ⟨q1, by rw [getD_get hj]; exact q2⟩⟩
      · exact ⟨.undef, fun h => absurd h hj⟩
    have f2 : ∀ j, ∃ w, j < t.length → snapA R (d + 2) (cells.getD j .undef) = some w ∧ IsRow w (t.getD j []) := fun j => by
      by_cases hj : j < t.length
      · obtain ⟨w, q1, q2⟩ := (h.row j hj).snapRow (d := d)
        exact ⟨w, fun _ => ⟨q1, by rw [getD_get hj]; exact q2⟩⟩
      · exact ⟨.undef, fun h => absurd h hj⟩
    constructor
    · obtain ⟨g, hg⟩ := Classical.axiomOfChoice f1
      have hm := mapM_rng (f := freeA R (d + 2)) cells g fun j hj => (hg j (by omega)).1
      refine ⟨.imm false ((List.range cells.length).map g) t.length, ?_, tab_of_cells (by simpa using hl) fun j hj => ?_⟩
      · rw [free_sl, hH, freeS_some, if_pos (by simp; omega), List.drop_zero, List.take_of_length_le (by omega), hm, freeB_some]
      · have := (hg j hj).2
        rw [getD_get hj] at this
        rw [getD_get (by simp; omega)]
        simpa using this
    · obtain ⟨g, hg⟩ := Classical.axiomOfChoice f2
      have hm := mapM_rng (f := snapA R (d + 2)) cells g fun j hj => (hg j (by omega)).1
      refine ⟨.imm true ((List.range cells.length).map g) t.length, ?_, tab_of_cells (by simpa using hl) fun j hj => ?_⟩
      · rw [snap_sl, hH, snapS_some, if_pos (by simp; omega), List.drop_zero, List.take_of_length_le (by omega), hm, snapB_some]
      · have := (hg j hj).2
        rw [getD_get hj] at this
        rw [getD_get (by simp; omega)]
        simpa using this

/-! ### Tables that are handed on with what they hold -/
def shO (n : Nat) (o : Ob) : Ob := match o.cells.mapM (shiftA n depth) with
  | some cs => ⟨o.ver, cs⟩
  | none => ⟨o.ver, o.cells.map fun c => (shiftA n depth c).getD .undef⟩
theorem shO_eq (n : Nat) (o : Ob) : shiftO n o = some (shO n o) := rfl
theorem mapM_shO (n : Nat) : ∀ (R : Heap), R.mapM (shiftO n) = some (R.map (shO n))
  | [] => rfl
  | o :: R => by rw [List.mapM_cons, mapM_shO n R, shO_eq]; rfl
theorem shO_row {n ver : Nat} {l : List Int} : shO n ⟨ver, l.map vI⟩ = ⟨ver, l.map vI⟩ := by
  unfold shO
  simp only
  rw [show depth = 5 + 1 from rfl, mapM_shift]

def upV (n : Nat) : AV → AV
  | .sl id ver e off len cap => .sl (id + n) ver e off len cap
  | v => v
theorem Gro.shift {k e n m d : Nat} {v : AV} {cells : List AV} (h : Gro k e H v n cells) : shiftA m (d + 1) v = some (upV m v) := by
  obtain ⟨h1, ⟨rfl, rfl⟩ | ⟨id, ver, hid, rfl, hH⟩⟩ := h <;> rfl
theorem idOf_up {n i : Nat} {v : AV} : idOf (upV n v) = some i ↔ ∃ j, idOf v = some j ∧ i = j + n := by
  cases v <;> simp [upV, idOf, eq_comm]
theorem shift_get {L : Heap} {i : Nat} {o : Ob} (h : H[i]? = some o) : (L ++ H.map (shO L.length))[i + L.length]? = some (shO L.length o) := by
  rw [List.getElem?_append_right (by omega), Nat.add_sub_cancel, List.getElem?_map, h]; rfl
theorem Gro.shiftRow {k n : Nat} {v : AV} {l : List Int} {L : Heap} (h : Gro k 1 H v n (l.map vI)) : Gro L.length 1 (L ++ H.map (shO L.length)) (upV L.length v) n (l.map vI) := by
  obtain ⟨h1, ⟨rfl, rfl⟩ | ⟨id, ver, hid, rfl, hH⟩⟩ := h
  · exact ⟨h1, .inl ⟨rfl, rfl⟩⟩
  · exact ⟨h1, .inr ⟨id + L.length, ver, by omega, rfl, by rw [shift_get hH, shO_row]⟩⟩

theorem HTab.shift {k : Nat} {R L : Heap} {v : AV} {t : List (List Int)} {cells : List AV} (h : HTab k R v t cells) : HTab L.length (L ++ R.map (shO L.length)) (upV L.length v) t (cells.map (upV L.length)) := by
  have hl := h.clen
  have e : ∀ j, j < t.length → (cells.map (upV L.length)).getD j .undef = upV L.length (cells.getD j .undef) := fun j hj => by
    rw [getD_get (by simp; omega), getD_get (by omega)]; simp
  refine ⟨⟨by simp; omega, ?_⟩, fun j hj => by rw [e j hj]; exact (h.row j hj).shiftRow, fun j i hj hi => ?_, fun j m i hj hm hjm hi => ?_⟩
  · obtain ⟨h1, ⟨h0, rfl⟩ | ⟨id, ver, _, rfl, hH⟩⟩ := h.gro
    · exact .inl ⟨h0, rfl⟩
    · refine .inr ⟨id + L.length, ver, by omega, rfl, ?_⟩
      rw [shift_get hH]
      unfold shO
      simp only
      have hm : cells.mapM (shiftA L.length depth) = some ((List.range cells.length).map fun j => upV L.length (cells.getD j .undef)) := mapM_rng _ _ fun j hj => by
        rw [show depth = 5 + 1 from rfl]; exact (h.row j (by omega)).shift
      rw [hm]
      simp only [Option.some.injEq, Ob.mk.injEq, true_and]
      refine List.ext_getElem (by simp) fun j h1 h2 => ?_
      have hj : j < cells.length := by simpa using h1
      simp [List.getD_eq_getElem?_getD, hj]
  · rw [e j hj] at hi
    obtain ⟨a, h1, rfl⟩ := idOf_up.1 hi
    intro h2
    obtain ⟨b, h3, h4⟩ := idOf_up.1 h2
    obtain rfl : a = b := by omega
    exact h.ne j a hj h1 h3
  · rw [e j hj] at hi
    rw [e m hm]
    obtain ⟨a, h1, rfl⟩ := idOf_up.1 hi
    intro h2
    obtain ⟨b, h3, h4⟩ := idOf_up.1 h2
    obtain rfl : a = b := by omega
    exact h.inj j m a hj hm hjm h1 h3

/-- A call that hands on a table. -/
theorem call_tab {R : Run} {f : Nat} {args bs : List AV} {t : List (List Int)} {v : AV} {R0 : Heap} {k : Nat} {cells : List AV} (hs : args.mapM (snapA H 6) = some bs) (hr : R f bs [] = some (v, R0)) (ht : HTab k R0 v t cells) :
    ∃ v' H' cells', callA R 2 f args H = some (v', H') ∧ HTab H.length H' v' t cells' ∧ ∀ i, i < H.length → H'[i]? = H[i]? := by
  refine ⟨upV H.length v, H ++ R0.map (shO H.length), _, ?_, ht.shift, fun i hi => List.getElem?_append_left hi⟩
  simp only [callA, show depth = 6 from rfl, hs, hr, mapM_shO]
  rw [ht.gro.shift]

/-- A number is appended to a row of a table, and the row is stored back. -/
theorem HTab.push {k i : Nat} {R : Heap} {v : AV} {t : List (List Int)} {cells : List AV} {x : Int} (h : HTab k R v t cells) (hk : k ≤ R.length) (hi : i < t.length) (hl : t[i].length ≤ 1000) :
    ∃ c' R' R'', appA (R ++ [⟨0, [vI x]⟩]) 1 8 (cells.getD i .undef) (.sl R.length 0 1 0 1 none) = some (c', R') ∧ storeA R' 1 (gptr 1 v i) c' = some R'' ∧ HTab k R'' v (t.set i (t[i] ++ [x])) (cells.set i c') ∧
      (∀ a, a < k → R''[a]? = R[a]?) ∧ R.length ≤ R''.length := by
  obtain ⟨c', R', g1, g2, g3, g4, g5⟩ := (h.row i hi).app2 (bytes := 8) (ys := [vI x]) hk rfl rfl (by omega) (by omega)
  obtain ⟨o1, o2, o3⟩ := g2.one
  have hcl := h.clen
  obtain ⟨v1, ⟨v0, rfl⟩ | ⟨id, ver, hid, rfl, hH⟩⟩ := h.gro
  · omega
  · have hidl := hlt_of hH
    have hidn : ∀ a, idOf (cells.getD i .undef) = some a → a ≠ id := fun a ha e => h.ne i a hi ha (by rw [e]; rfl)
    have hH' : R'[id]? = some ⟨ver, cells⟩ := by rw [g3 id hidl (fun e => hidn id e rfl)]; exact hH
    have hne' : ∀ a, a < R.length → idOf (cells.getD i .undef) ≠ some a → idOf c' ≠ some a := by
      intro a h1 h2 h3
      rcases g5 with e | ⟨j, e, hj⟩
      · exact h2 (by rw [← e]; exact h3)
      · rw [e] at h3; cases h3; omega
    have hcid : idOf c' ≠ some id := hne' id hidl (fun e => hidn id e rfl)
    refine ⟨c', R', R'.set id ⟨ver, cells.set i c'⟩, g1, ?_, ⟨⟨by simp; omega, .inr ⟨id, ver, hid, by simp, ?_⟩⟩, fun j hj => ?_, fun j a hj ha => ?_, fun j m a hj hm hjm ha => ?_⟩, fun a ha => ?_, by simpa using g4⟩
    · simp only [gptr, storeA, hH', o3, List.length_cons, List.length_nil, List.all_cons, List.all_nil, o1, putAll]
      rw [if_pos (by simp; omega)]
      simp
    · rw [List.getElem?_set_self (hlt_of hH')]
    · have hj' : j < t.length := by simpa using hj
      by_cases e : i = j
      · subst e
        have e1 : (cells.set i c').getD i .undef = c' := by rw [getD_get (by simp; omega)]; simp
        have e2 : (t.set i (t[i] ++ [x]))[i]'hj = t[i] ++ [x] := by simp
        rw [e1, e2, List.length_append, List.length_cons, List.length_nil, List.map_append]
        exact g2.keep fun a ha => by
          have : id ≠ a := fun e => hcid (by rw [ha, e])
          rw [List.getElem?_set_ne this]
      · have e1 : (cells.set i c').getD j .undef = cells.getD j .undef := by
          rw [List.getD_eq_getElem?_getD, List.getElem?_set_ne e, ← List.getD_eq_getElem?_getD]
        have e2 : (t.set i (t[i] ++ [x]))[j]'hj = t[j] := List.getElem_set_ne e _
        rw [e1, e2]
        exact (h.row j hj').keep fun a ha => by
          have h1 : id ≠ a := fun e3 => h.ne j a hj' ha (by rw [← e3]; rfl)
          rw [List.getElem?_set_ne h1]
          exact g3 a ((h.row j hj').id_lt ha) (fun e3 => h.inj j i a hj' hi (Ne.symm e) ha e3)
    · have hj' : j < t.length := by simpa using hj
      by_cases e : i = j
      · subst e
        have e1 : (cells.set i c').getD i .undef = c' := by rw [getD_get (by simp; omega)]; simp
        rw [e1] at ha
        intro e3
        cases e3
        exact hcid ha
      · have e1 : (cells.set i c').getD j .undef = cells.getD j .undef := by
          rw [List.getD_eq_getElem?_getD, List.getElem?_set_ne e, ← List.getD_eq_getElem?_getD]
        rw [e1] at ha
        exact h.ne j a hj' ha
    · have hj' : j < t.length := by simpa using hj
      have hm' : m < t.length := by simpa using hm
      have e0 : ∀ q, q ≠ i → (cells.set i c').getD q .undef = cells.getD q .undef := fun q e => by
        rw [List.getD_eq_getElem?_getD, List.getElem?_set_ne (Ne.symm e), ← List.getD_eq_getElem?_getD]
      have ei : (cells.set i c').getD i .undef = c' := by rw [getD_get (by simp; omega)]; simp
      by_cases e : j = i
      · subst e
        rw [ei] at ha
        rw [e0 m (Ne.symm hjm)]
        intro h3
        exact hne' a ((h.row m hm').id_lt h3) (h.inj m j a hm' hj' (Ne.symm hjm) h3) ha
      · rw [e0 j e] at ha
        by_cases e2 : m = i
        · subst e2
          rw [ei]
          intro h3
          exact hne' a ((h.row j hj').id_lt ha) (h.inj j m a hj' hm' hjm ha) h3
        · rw [e0 m e2]; exact h.inj j m a hj' hm' hjm ha
    · rw [List.getElem?_set_ne (by omega), g3 a (by omega) (fun e => by have := (h.row i hi).ge e; omega)]

theorem IsRow.slice {v : AV} {l : List Int} (h : IsRow v l) {j : Nat} (hj : j ≤ l.length) : ∃ w, sliceA 1 v none (some (.int .i64 (j : Int))) none = some w ∧ IsRow w (l.take j) := by
  cases h with
  | nil =>
    have : j = 0 := by simpa using hj
    subst this
    exact ⟨.nils, rfl, .nil⟩
  | imm sn l =>
    refine ⟨.imm sn ((l.take j).map vI) (l.take j).length, ?_, .imm sn _⟩
    simp only [sliceA, optNat, natOf_nat]
    rw [if_pos ⟨by omega, hj⟩]
    simp [List.map_take]
    omega
theorem IsTab.slice {v : AV} {t : List (List Int)} (h : IsTab v t) {j : Nat} (hj : j ≤ t.length) : ∃ w, sliceA 1 v none (some (.int .i64 (j : Int))) none = some w ∧ IsTab w (t.take j) := by
  cases h with
  | nil =>
    have : j = 0 := by simpa using hj
    subst this
    exact ⟨.nils, rfl, .nil⟩
  | imm sn vs t hl hr =>
    have e : (t.take j).length = j := by simp; omega
    refine ⟨.imm sn (vs.take j) (t.take j).length, ?_, .imm sn _ _ (by simp; omega) fun i hi => ?_⟩
    · simp only [sliceA, optNat, natOf_nat, e]
      rw [if_pos ⟨by omega, hj⟩]
      simp
    · have h1 : i < t.length := by omega
      have h2 : i < j := by omega
      have := hr i h1
      rw [List.getD_eq_getElem?_getD, List.getElem?_take_of_lt h2, ← List.getD_eq_getElem?_getD, List.getD_eq_getElem?_getD (l := t.take j), List.getElem?_take_of_lt h2, ← List.getD_eq_getElem?_getD]
      exact this
theorem zeros_nils {n : Nat} : zerosA [.nils] n = List.replicate n .nils := by
  apply List.ext_getElem
  · simp [zerosA]
  · intro i h1 h2
    simp [zerosA, Nat.mod_one]
/-- Rows that are all empty. -/
theorem HTab.start {k n : Nat} {R : Heap} (h : R[k]? = some ⟨0, List.replicate n .nils⟩) : HTab k R (.sl k 0 1 0 n none) (List.replicate n []) (List.replicate n .nils) := by
  have e : ∀ j, (List.replicate n AV.nils).getD j .undef = .nils ∨ (List.replicate n AV.nils).getD j .undef = .undef := fun j => by
    rw [List.getD_eq_getElem?_getD, List.getElem?_replicate]
    split
    · exact .inl rfl
    · exact .inr rfl
  have e2 : ∀ j i, idOf ((List.replicate n AV.nils).getD j .undef) ≠ some i := fun j i h => by
    rcases e j with q | q <;> rw [q] at h <;> cases h
  refine ⟨⟨by simp, .inr ⟨k, 0, Nat.le_refl _, by simp, h⟩⟩, fun j hj => ?_, fun j i _ hi => absurd hi (e2 j i), fun j m i _ _ _ hi => absurd hi (e2 j i)⟩
  have hj' : j < n := by simpa using hj
  have e1 : (List.replicate n AV.nils).getD j .undef = .nils := by rw [getD_get (by simpa using hj')]; simp
  have e3 : (List.replicate n ([] : List Int))[j]'hj = [] := by simp
  rw [e1, e3]
  exact Gro.nil _ _ _

/-- A table, and a row beside it that grows. -/
structure Work (R : Heap) (v : AV) (t : List (List Int)) (cells : List AV) (c : AV) (l : List Int) : Prop where
  tab : HTab 0 R v t cells
  row : Gro 0 1 R c l.length (l.map vI)
  hv : ∀ i, idOf c = some i → idOf v ≠ some i
  hc : ∀ j i, j < t.length → idOf (cells.getD j .undef) = some i → idOf c ≠ some i

theorem HTab.work {R : Heap} {v : AV} {t : List (List Int)} {cells : List AV} (h : HTab 0 R v t cells) : Work R v t cells .nils [] :=
  ⟨h, Gro.nil _ _ _, fun i hi => (by cases hi), fun j i _ _ hi => (by cases hi)⟩
theorem Work.push {R : Heap} {v c : AV} {t : List (List Int)} {cells : List AV} {l : List Int} (h : Work R v t cells c l) (hl : l.length ≤ 1000) (x : Int) :
    ∃ c' R', appA (R ++ [⟨0, [vI x]⟩]) 1 8 c (.sl R.length 0 1 0 1 none) = some (c', R') ∧ Work R' v t cells c' (l ++ [x]) := by
  obtain ⟨c', R', g1, g2, g3, g4, g5⟩ := h.row.app2 (bytes := 8) (ys := [vI x]) (by omega) rfl rfl (by omega) (by omega)
  have hne' : ∀ a, a < R.length → idOf c ≠ some a → idOf c' ≠ some a := by
    intro a h1 h2 h3
    rcases g5 with e | ⟨j, e, hj⟩
    · exact h2 (by rw [← e]; exact h3)
    · rw [e] at h3; cases h3; omega
  refine ⟨c', R', g1, ⟨h.tab.keep (fun i hi => g3 i (h.tab.gro.id_lt hi) (fun e => h.hv i e hi)) fun j i hj hi => g3 i ((h.tab.row j hj).id_lt hi) (h.hc j i hj hi), ?_, fun i hi hv => ?_, fun j i hj hi => ?_⟩⟩
  · rw [List.length_append, List.map_append]; exact g2
  · exact hne' i (h.tab.gro.id_lt hv) (fun e => h.hv i e hv) hi
  · exact hne' i ((h.tab.row j hj).id_lt hi) (h.hc j i hj hi)
theorem Work.add {R : Heap} {v c : AV} {t : List (List Int)} {cells : List AV} {l : List Int} (h : Work R v t cells c l) (hl : t.length ≤ 1000) :
    ∃ v' R' cells', appA (R ++ [⟨0, [c]⟩]) 1 24 v (.sl R.length 0 1 0 1 none) = some (v', R') ∧ HTab 0 R' v' (t ++ [l]) cells' ∧ one c = true ∧ isU c = false ∧ cellsOf c = [c] := by
  obtain ⟨v', R', b1, b2, _⟩ := h.tab.add (by omega) h.row h.hv h.hc hl
  exact ⟨v', R', _, b1, b2, h.row.one⟩

theorem HTab.free_idem {k d : Nat} {R : Heap} {v w : AV} {t : List (List Int)} {cells : List AV} (h : HTab k R v t cells) (ho : freeA R (d + 1) v = some w) : ∀ H n, freeA H (n + 1) w = some w := by
  intro H n
  obtain ⟨h1, ⟨h0, rfl⟩ | ⟨id, ver, _, rfl, hH⟩⟩ := h.gro
  · cases ho; rfl
  · rw [free_sl, hH, freeS_some] at ho
    split at ho
    · simp only [freeB, Option.map_eq_some_iff] at ho
      obtain ⟨cs2, _, rfl⟩ := ho
      rfl
    · cases ho
end
end Go.X
