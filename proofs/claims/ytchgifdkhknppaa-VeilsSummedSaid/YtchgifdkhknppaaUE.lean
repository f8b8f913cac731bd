import Derived.Test.YtchgifdkhknppaaUD
import Derived.Test.YtchgifdkhknppaaUB
/-! Veils: All, with tables in new memory. -/
set_option linter.unusedSimpArgs false
set_option linter.unusedVariables false
set_option maxHeartbeats 8000000
set_option maxRecDepth 10000
namespace Go.X
open Go Go.RowKit
section
variable {Y : Run} {H : Heap}

/-! ### copies -/
theorem clone80 {w : AV} {l : List Int} (hw : IsRow w l) (h0 : l ≠ []) (hl : l.length ≤ 1000) : callL EV Y 80 [w] [] = some (.sl 0 1 1 0 l.length none, [⟨1, l.map vI⟩]) := by
  have e1 : eqnA false w = some (.bool false) := by
    cases hw with
    | nil => exact absurd rfl h0
    | imm s l => cases l with
      | nil => exact absurd rfl h0
      | cons x l => rfl
  have e2 : appA [⟨0, []⟩] 1 8 (.sl 0 0 1 0 0 none) w = some (.sl 0 1 1 0 l.length none, [⟨1, l.map vI⟩]) := by
    have hn : ¬ l.length = 0 := fun h => h0 (List.eq_nil_of_length_eq_zero h)
    have e0 : lenA (.sl 0 0 1 0 0 none) = some 0 := rfl
    simp only [appA, e0, hw.len, hw.content]
    rw [if_neg hn, if_pos ⟨by omega, by omega, ones_all l⟩]
    simp
  rw [call80 rfl]
  simp only [F80B, SS, insA, wantedA, Opd.ev, putA, binA, eqbA, unA, fldA, partA, reduceIte, reduceCtorEq, Nat.reduceMod, Nat.reduceDiv, Nat.reduceBEq, resultA, resA, vI, Nat.reduceMul, Nat.reduceAdd, Nat.reduceSub, Nat.reduceEqDiff, Nat.reduceLT, Nat.reducePow, Nat.reduceLeDiff, st, Option.bind_eq_bind, Option.pure_def, List.length_nil, Int.cast_ofNat_Int, List.reverse_nil, UU, idxP, cellsAt, storeA, fillA, zerosA, putAll, optNat, sliceA, row, Int.reduceLT, Int.reduceLE, Int.reduceGT, Int.reduceGE, Int.reduceEq, Int.reduceNe, Int.reduceToNat, Int.reduceBEq, Int.reduceBNe, Nat.reduceLeDiff, Nat.reduceLT, Nat.reduceBNe, Nat.reduceGT, List.drop_nil, List.take_nil, Option.isSome_none, Int.ofNat_one, Int.ofNat_zero, e1, e2]

theorem clone2 {w : AV} {l : List Int} (hw : IsRow w l) (h0 : l ≠ []) (hl : l.length ≤ 1000) : callA (callL EV Y) 2 80 [w] H = some (.sl H.length 1 1 0 l.length none, H ++ [⟨1, l.map vI⟩]) := by
  have hs : [w].mapM (snapA H 6) = some [w] := by rw [mapM_cons', hw.snap]; rfl
  simp only [callA, show depth = 6 from rfl, hs, clone80 hw h0 hl, mapM_shO]
  rw [show shiftA H.length 6 (.sl 0 1 1 0 l.length none) = some (.sl (0 + H.length) 1 1 0 l.length none) from rfl, List.map_cons, List.map_nil, shO_row, Nat.zero_add]

theorem L57_0 {vt : AV} {t : List (List Int)} (ht : IsTab vt t) (hn : t.length ≤ 20) (hr : ∀ r ∈ t, r ≠ [] ∧ r.length ≤ 20) (d : Nat) : ∀ (i : Nat) (R : Heap) (v : AV) (cells : List AV), i + d = t.length → HTab 0 R v (t.take i) cells →
    ∃ R' v' cells', lp EV Y F57L0 (sp 19 [(8, vI i), (7, vI t.length), (6, vt), (3, v)]) R = some (.x 0, sp 19 [(3, v')], R') ∧ HTab 0 R' v' t cells' := by
  induction d with
  | zero =>
    intro i R v cells hi hT
    have : ¬ ((i : Int) < (t.length : Int)) := by omega
    refine ⟨R, v, cells, ?_, ?_⟩
    · rw [un57_0]
      simp only [F57L0b, SS, insA, wantedA, Opd.ev, putA, binA, eqbA, unA, fldA, partA, reduceIte, reduceCtorEq, Nat.reduceMod, Nat.reduceDiv, Nat.reduceBEq, resultA, resA, vI, Nat.reduceMul, Nat.reduceAdd, Nat.reduceSub, Nat.reduceEqDiff, Nat.reduceLT, Nat.reducePow, Nat.reduceLeDiff, st, Option.bind_eq_bind, Option.pure_def, List.length_nil, Int.cast_ofNat_Int, List.reverse_nil, UU, idxP, cellsAt, storeA, fillA, zerosA, putAll, optNat, sliceA, row, Int.reduceLT, Int.reduceLE, Int.reduceGT, Int.reduceGE, Int.reduceEq, Int.reduceNe, Int.reduceToNat, Int.reduceBEq, Int.reduceBNe, Nat.reduceLeDiff, Nat.reduceLT, Nat.reduceBNe, Nat.reduceGT, List.drop_nil, List.take_nil, Option.isSome_none, Int.ofNat_one, Int.ofNat_zero, this]
    · rwa [List.take_of_length_le (by omega)] at hT
  | succ d ih =>
    intro i R v cells hi hT
    have hc : (i : Int) < (t.length : Int) := by omega
    have hww := wrap_succ (n := i) (by omega)
    have k1 : i < t.length := by omega
    have r1 := ht.row k1
    rw [getD_get k1] at r1
    obtain ⟨h0, hl⟩ := hr _ (List.getElem_mem k1)
    have c2 := clone2 (Y := Y) (H := R) r1 h0 (by omega)
    have hT2 := hT.more [⟨1, t[i].map vI⟩]
    have hrow : Gro 0 1 (R ++ [⟨1, t[i].map vI⟩]) (.sl R.length 1 1 0 t[i].length none) t[i].length (t[i].map vI) := Gro.made (by simp) (by omega)
    obtain ⟨v', R', b1, b2, b3, b4, b5⟩ := hT2.add (c := _) (l := t[i]) (by omega) hrow
      (fun a ha hb => by cases ha; have := hT.gro.id_lt hb; omega)
      (fun j a hj ha hb => by cases hb; have := (hT.row j hj).id_lt ha; omega) (by simp; omega)
    have e : t.take i ++ [t[i]] = t.take (i + 1) := (List.take_succ_eq_append_getElem k1).symm
    rw [e] at b2
    obtain ⟨R2, v2, cs2, q1, q2⟩ := ih (i + 1) R' v' _ (by omega) b2
    refine ⟨R2, v2, cs2, ?_, q2⟩
    rw [un57_0]
    have hlen : (R ++ [(⟨1, t[i].map vI⟩ : Ob)]).length = R.length + 1 := by simp
    rw [hlen] at b1
    rw [List.append_assoc] at b1
    simp only [SS, insA, wantedA, Opd.ev, putA, binA, eqbA, unA, fldA, partA, reduceIte, reduceCtorEq, Nat.reduceMod, Nat.reduceDiv, Nat.reduceBEq, resultA, resA, vI, Nat.reduceMul, Nat.reduceAdd, Nat.reduceSub, Nat.reduceEqDiff, Nat.reduceLT, Nat.reducePow, Nat.reduceLeDiff, st, Option.bind_eq_bind, Option.pure_def, List.length_nil, Int.cast_ofNat_Int, List.reverse_nil] at q1 b1 c2
    simp only [F57L0b, SS, insA, wantedA, Opd.ev, putA, binA, eqbA, unA, fldA, partA, reduceIte, reduceCtorEq, Nat.reduceMod, Nat.reduceDiv, Nat.reduceBEq, resultA, resA, vI, Nat.reduceMul, Nat.reduceAdd, Nat.reduceSub, Nat.reduceEqDiff, Nat.reduceLT, Nat.reducePow, Nat.reduceLeDiff, st, Option.bind_eq_bind, Option.pure_def, List.length_nil, Int.cast_ofNat_Int, List.reverse_nil, UU, idxP, cellsAt, storeA, fillA, zerosA, putAll, optNat, sliceA, row, Int.reduceLT, Int.reduceLE, Int.reduceGT, Int.reduceGE, Int.reduceEq, Int.reduceNe, Int.reduceToNat, Int.reduceBEq, Int.reduceBNe, Nat.reduceLeDiff, Nat.reduceLT, Nat.reduceBNe, Nat.reduceGT, List.drop_nil, List.take_nil, Option.isSome_none, Int.ofNat_one, Int.ofNat_zero, hc, ht.idx k1, ht.load k1, c2, b1, hww, q1]

theorem copied57 {vt : AV} {t : List (List Int)} (ht : IsTab vt t) (hn : t.length ≤ 20) (hr : ∀ r ∈ t, r ≠ [] ∧ r.length ≤ 20) : ∃ v R cells, callL EV Y 57 [vt] [] = some (v, R) ∧ HTab 0 R v t cells := by
  obtain ⟨R', v', cells', q1, q2⟩ := L57_0 (Y := Y) ht hn hr t.length 0 [] .nils [] (by omega) (HTab.nil _ _)
  refine ⟨v', R', cells', ?_, q2⟩
  rw [call57 rfl]
  simp only [SS, insA, wantedA, Opd.ev, putA, binA, eqbA, unA, fldA, partA, reduceIte, reduceCtorEq, Nat.reduceMod, Nat.reduceDiv, Nat.reduceBEq, resultA, resA, vI, Nat.reduceMul, Nat.reduceAdd, Nat.reduceSub, Nat.reduceEqDiff, Nat.reduceLT, Nat.reducePow, Nat.reduceLeDiff, st, Option.bind_eq_bind, Option.pure_def, List.length_nil, Int.cast_ofNat_Int, List.reverse_nil, Int.ofNat_zero] at q1
  simp only [F57B, F57T0, in57_0, SS, insA, wantedA, Opd.ev, putA, binA, eqbA, unA, fldA, partA, reduceIte, reduceCtorEq, Nat.reduceMod, Nat.reduceDiv, Nat.reduceBEq, resultA, resA, vI, Nat.reduceMul, Nat.reduceAdd, Nat.reduceSub, Nat.reduceEqDiff, Nat.reduceLT, Nat.reducePow, Nat.reduceLeDiff, st, Option.bind_eq_bind, Option.pure_def, List.length_nil, Int.cast_ofNat_Int, List.reverse_nil, UU, idxP, cellsAt, storeA, fillA, zerosA, putAll, optNat, sliceA, row, Int.reduceLT, Int.reduceLE, Int.reduceGT, Int.reduceGE, Int.reduceEq, Int.reduceNe, Int.reduceToNat, Int.reduceBEq, Int.reduceBNe, Nat.reduceLeDiff, Nat.reduceLT, Nat.reduceBNe, Nat.reduceGT, List.drop_nil, List.take_nil, Option.isSome_none, Int.ofNat_one, Int.ofNat_zero, ht.len, q1]

/-! ### a list of tables in the heap -/
theorem Gro.mono {k k' e n : Nat} {v : AV} {cells : List AV} (h : Gro k e H v n cells) (hk : k' ≤ k) : Gro k' e H v n cells := by
  obtain ⟨h1, h2 | ⟨id, ver, hid, rfl, hH⟩⟩ := h
  · exact ⟨h1, .inl h2⟩
  · exact ⟨h1, .inr ⟨id, ver, by omega, rfl, hH⟩⟩
theorem HTab.mono {k k' : Nat} {v : AV} {t : List (List Int)} {cells : List AV} (h : HTab k H v t cells) (hk : k' ≤ k) : HTab k' H v t cells :=
  ⟨h.gro.mono hk, fun j hj => (h.row j hj).mono hk, h.ne, h.inj⟩

/-- A table's objects lie from b on, before e. -/
def Rng (b e : Nat) (v : AV) (cells : List AV) (n : Nat) : Prop := (∀ i, idOf v = some i → b ≤ i ∧ i < e) ∧ ∀ j i, j < n → idOf (cells.getD j .undef) = some i → b ≤ i ∧ i < e
theorem HTab.keepR {k b e n : Nat} {R R' : Heap} {v : AV} {t : List (List Int)} {cells : List AV} (h : HTab k R v t cells) (hr : Rng b e v cells n) (hn : t.length = n) (hk : ∀ i, b ≤ i → i < e → R'[i]? = R[i]?) : HTab k R' v t cells :=
  h.keep (fun i hi => hk i (hr.1 i hi).1 (hr.1 i hi).2) fun j i hj hi => hk i (hr.2 j i (by omega) hi).1 (hr.2 j i (by omega) hi).2

structure Lst (K f : Nat) (R : Heap) (o : AV) (oc : List AV) (ts : List (List (List Int))) (b e : Nat → Nat) (cs : Nat → List AV) : Prop where
  out : Gro K 1 R o ts.length oc
  tab : ∀ j (h : j < ts.length), f ≤ j → HTab 0 R (oc.getD j .undef) ts[j] (cs j)
  rng : ∀ j (h : j < ts.length), Rng (b j) (e j) (oc.getD j .undef) (cs j) ts[j].length
  lo : ∀ j, j < ts.length → K ≤ b j ∧ e j ≤ R.length
  ord : ∀ j l, j < l → l < ts.length → e j ≤ b l
  sep : ∀ j i, j < ts.length → idOf o = some i → ¬ (b j ≤ i ∧ i < e j)

theorem Lst.nil {K f : Nat} {R : Heap} {b e : Nat → Nat} {cs : Nat → List AV} : Lst K f R .nils [] [] b e cs :=
  ⟨Gro.nil _ _ _, fun j h => by simp at h, fun j h => by simp at h, fun j h => by simp at h, fun j l _ h => by simp at h, fun j i h => by simp at h⟩
theorem Lst.keep {K f : Nat} {R R' : Heap} {o : AV} {oc : List AV} {ts : List (List (List Int))} {b e : Nat → Nat} {cs : Nat → List AV} (h : Lst K f R o oc ts b e cs) (hk : ∀ i, K ≤ i → i < R.length → R'[i]? = R[i]?) (hl : R.length ≤ R'.length) : Lst K f R' o oc ts b e cs :=
  ⟨h.out.keep fun i hi => hk i (h.out.ge hi) (h.out.id_lt hi), fun j hj hf => (h.tab j hj hf).keepR (h.rng j hj) rfl fun i h1 h2 => hk i (by have := h.lo j hj; omega) (by have := h.lo j hj; omega),
    h.rng, fun j hj => by have := h.lo j hj; omega, h.ord, h.sep⟩

theorem Lst.push {K : Nat} {R R1 : Heap} {o v : AV} {oc cells : List AV} {ts : List (List (List Int))} {t : List (List Int)} {b e : Nat → Nat} {cs : Nat → List AV} (h : Lst K 0 R o oc ts b e cs) (hK : K ≤ R.length) (hT : HTab R.length R1 v t cells)
    (h1 : ∀ i, i < R.length → R1[i]? = R[i]?) (h2 : R.length ≤ R1.length) (hn : ts.length ≤ 1000000) :
    ∃ o' R', appA (R1 ++ [⟨0, [v]⟩]) 1 24 o (.sl R1.length 0 1 0 1 none) = some (o', R') ∧ R1.length ≤ R'.length ∧ (∀ i, i < K → R'[i]? = R[i]?) ∧ one o' = true ∧ cellsOf o' = [o'] ∧
      ∃ b e cs, Lst K 0 R' o' (oc ++ [v]) (ts ++ [t]) b e cs := by
  have h' := h.keep (fun i _ hi => h1 i hi) h2
  obtain ⟨v1, v2, v3⟩ := hT.gro.one
  obtain ⟨o', R', g1, g2, g3, g4, g5⟩ := h'.out.app2 (bytes := 24) (ys := [v]) (by omega) rfl (by simp [v1]) (by omega) (by omega)
  obtain ⟨p1, p2, p3⟩ := g2.one
  have hol : oc.length = ts.length := by have := h.out.1; omega
  have hoR : ∀ i, idOf o = some i → i < R.length := fun i hi => h.out.id_lt hi
  have gin : ∀ j, j < ts.length → (oc ++ [v]).getD j .undef = oc.getD j .undef := fun j hj => by
    rw [List.getD_eq_getElem?_getD, List.getElem?_append_left (by omega), ← List.getD_eq_getElem?_getD]
  have gl : (oc ++ [v]).getD ts.length .undef = v := by
    rw [List.getD_eq_getElem?_getD, List.getElem?_append_right (by omega), hol]; simp
  have tin : ∀ j (hj : j < ts.length) (hj' : j < (ts ++ [t]).length), (ts ++ [t])[j] = ts[j] := fun j hj _ => List.getElem_append_left hj
  have tl : ∀ (hj' : ts.length < (ts ++ [t]).length), (ts ++ [t])[ts.length] = t := fun _ => by simp
  have cas : ∀ j, j < (ts ++ [t]).length → j < ts.length ∨ j = ts.length := fun j hj => by simp at hj; omega
  refine ⟨o', R', g1, g4, fun i hi => ?_, p1, p3, fun j => if j < ts.length then b j else R.length, fun j => if j < ts.length then e j else R1.length, fun j => if j < ts.length then cs j else cells, ?_⟩
  · rw [g3 i (by omega) (fun hi' => by have := h.out.ge hi'; omega), h1 i (by omega)]
  · refine ⟨by rw [List.length_append]; exact g2, fun j hj hf => ?_, fun j hj => ?_, fun j hj => ?_, fun j l hjl hl => ?_, fun j i hj hi => ?_⟩
    · rcases cas j hj with c | rfl
      · rw [gin j c, tin j c, if_pos c]
        refine (h'.tab j c hf).keepR (h.rng j c) rfl fun i a1 a2 => g3 i ?_ fun hi => h.sep j i c hi ⟨a1, a2⟩
        have := h.lo j c; omega
      · rw [gl, tl, if_neg (by omega)]
        refine (hT.mono (Nat.zero_le _)).keep (fun i hi => g3 i (hT.gro.id_lt hi) fun ho => ?_) fun m i hm hi => g3 i ((hT.row m hm).id_lt hi) fun ho => ?_
        · have := hT.gro.ge hi; have := hoR i ho; omega
        · have := (hT.row m hm).ge hi; have := hoR i ho; omega
    · rcases cas j hj with c | rfl
      · rw [gin j c, tin j c, if_pos c, if_pos c, if_pos c]; exact h.rng j c
      · rw [gl, tl, if_neg (by omega), if_neg (by omega), if_neg (by omega)]
        exact ⟨fun i hi => ⟨hT.gro.ge hi, hT.gro.id_lt hi⟩, fun m i hm hi => ⟨(hT.row m hm).ge hi, (hT.row m hm).id_lt hi⟩⟩
    · rcases cas j hj with c | rfl
      · rw [if_pos c, if_pos c]; have := h.lo j c; omega
      · rw [if_neg (by omega), if_neg (by omega)]; omega
    · have c1 : j < ts.length := by simp at hl; omega
      rw [if_pos c1]
      rcases cas l hl with c | rfl
      · rw [if_pos c]; exact h.ord j l hjl c
      · rw [if_neg (by omega)]; exact (h.lo j c1).2
    · rcases cas j hj with c | rfl
      · rw [if_pos c, if_pos c]
        rcases g5 with q | ⟨m, q, hm⟩
        · rw [q] at hi; exact h.sep j i c hi
        · rw [q] at hi; cases hi; have := h.lo j c; omega
      · rw [if_neg (by omega), if_neg (by omega)]
        rcases g5 with q | ⟨m, q, hm⟩
        · rw [q] at hi; have := hoR i hi; omega
        · rw [q] at hi; cases hi; omega

/-! ### All -/
def QA (M : Nat) (R : Heap) (ts : List (List (List Int))) : Prop := ∃ o oc b e cs, R[0]? = some ⟨0, [o]⟩ ∧ M + 6 ≤ R.length ∧ Lst (M + 6) 0 R o oc ts b e cs

theorem found56 {M n : Nat} (h1 : 1 ≤ n) (h5 : n ≤ 5) : Found Y 1 M n 56 [.ptr 0 0 0] (QA M) (fun s t => s ++ [t]) (fun s => s.length ≤ 1000000) (fun _ => True) := by
  refine ⟨fun s t h => by simp at h; omega, fun R R' s ⟨o, oc, b, e, cs, q1, q2, q3⟩ hk hl => ⟨o, oc, b, e, cs, by rw [hk 0 (by omega)]; exact q1, by omega, q3.keep (fun i a _ => hk i (by omega)) (by omega)⟩, ?_⟩
  intro vr vc v R t cells rs cs s A q _ ⟨o, oc, b, e, cs2, q1, q2, q3⟩ hB
  obtain ⟨_, w, o3, o4⟩ := A.tab.out (d := 3)
  have o3 : snapA R 6 v = some w := o3
  obtain ⟨v1, R1, cells1, m1, m2⟩ := copied57 (Y := Y) o4 (by rw [q.len]; omega) fun r hr => by
    have := q.row r hr
    exact ⟨fun e => by rw [e] at this; simp at this; omega, by omega⟩
  obtain ⟨v', H', cells', p1, p2, p3⟩ := call_tab (H := R) (R := callL EV Y) (f := 57) (args := [v]) (bs := [w]) (by rw [mapM_cons', o3]; rfl) m1 m2
  have hlen : R.length ≤ H'.length := by
    rcases Nat.lt_or_ge H'.length R.length with hc | hc
    · have := p3 H'.length hc
      rw [List.getElem?_eq_none (Nat.le_refl _), List.getElem?_eq_getElem hc] at this
      cases this
    · exact hc
  obtain ⟨o', R', s1, s2, s3, s4, s5, b', e', cs', s6⟩ := q3.push (K := M + 6) q2 p2 p3 hlen (by simp at hB; omega)
  obtain ⟨x1, x2, x3⟩ := p2.gro.one
  have g0 : R'[0]? = some ⟨0, [o]⟩ := by rw [s3 0 (by omega)]; exact q1
  have st : storeA R' 1 (.ptr 0 0 0) o' = some (R'.set 0 ⟨0, [o']⟩) := by
    simp only [storeA, g0, s5]
    rw [if_pos (by simp [s4])]
    rfl
  have hne : ∀ i, i ≠ 0 → (R'.set 0 ⟨0, [o']⟩)[i]? = R'[i]? := fun i hi => List.getElem?_set_ne (Ne.symm hi)
  have lm := A.lm
  refine ⟨R'.set 0 ⟨0, [o']⟩, ?_, ⟨o', _, b', e', cs', by rw [List.getElem?_set_self (by omega)], by rw [List.length_set]; omega, s6.keep (fun i hi _ => hne i (by omega)) (by simp)⟩, fun i hi1 hi2 => by rw [hne i (by omega), s3 i hi2], by rw [List.length_set]; omega⟩
  have gl : (⟨0, [.nils]⟩ : Ob) = ⟨0, [.nils]⟩ := rfl
  rw [call56 rfl]
  simp only [F56B, SS, insA, wantedA, Opd.ev, putA, binA, eqbA, unA, fldA, partA, reduceIte, reduceCtorEq, Nat.reduceMod, Nat.reduceDiv, Nat.reduceBEq, resultA, resA, vI, Nat.reduceMul, Nat.reduceAdd, Nat.reduceSub, Nat.reduceEqDiff, Nat.reduceLT, Nat.reducePow, Nat.reduceLeDiff, st, Option.bind_eq_bind, Option.pure_def, List.length_nil, Int.cast_ofNat_Int, List.reverse_nil, UU, idxP, cellsAt, fillA, zerosA, putAll, row, Int.reduceLT, Int.reduceLE, Int.reduceGT, Int.reduceGE, Int.reduceEq, Int.reduceNe, Int.reduceToNat, Int.reduceBEq, Int.reduceBNe, Nat.reduceLeDiff, Nat.reduceLT, Nat.reduceBNe, Nat.reduceGT, List.drop_nil, List.take_nil, Option.isSome_none, Int.ofNat_one, Int.ofNat_zero, q1, p1, x1, x2, x3, s1, st]

/-- All, for whom it calls. -/
theorem all18 {n : Nat} (h1 : 1 ≤ n) (h5 : n ≤ 5) (hB : (allL n).length ≤ 1000000) : ∃ o R oc b e cs, callL EV Y 18 [vI n] [] = some (.tup [o, vI 0], R) ∧ Lst 0 0 R o oc (allL n) b e cs := by
  have fold : ∀ (l s : List (List (List Int))), l.foldl (fun s t => s ++ [t]) s = s ++ l := fun l => by
    induction l with
    | nil => intro s; simp
    | cons t l ih => intro s; rw [List.foldl_cons, ih, List.append_assoc]; rfl
  obtain ⟨M, R', f1, o, oc, b, e, cs, q1, q2, q3⟩ := all55 (Y := Y) (H0 := [⟨0, [.nils]⟩]) (Q := QA) (s := []) (caps := [.ptr 0 0 0]) (fun M => found56 h1 h5) h1 h5
    (fun M R hk hl hm => ⟨.nils, [], fun _ => 0, fun _ => 0, fun _ => [], by rw [hk 0 (by simp)]; rfl, by omega, Lst.nil⟩) (fun _ _ => trivial) (by rw [fold]; exact hB)
  rw [fold, List.nil_append] at q3
  have c1 : ¬ ((n : Int) < 1) := by omega
  have c2 : ¬ ((n : Int) > 5) := by omega
  refine ⟨o, R', oc, b, e, cs, ?_, ⟨q3.out.mono (Nat.zero_le _), q3.tab, q3.rng, fun j hj => ⟨Nat.zero_le _, (q3.lo j hj).2⟩, q3.ord, q3.sep⟩⟩
  rw [call18 rfl]
  simp only [SS, insA, wantedA, Opd.ev, putA, binA, eqbA, unA, fldA, partA, reduceIte, reduceCtorEq, Nat.reduceMod, Nat.reduceDiv, Nat.reduceBEq, resultA, resA, vI, Nat.reduceMul, Nat.reduceAdd, Nat.reduceSub, Nat.reduceEqDiff, Nat.reduceLT, Nat.reducePow, Nat.reduceLeDiff, st, Option.bind_eq_bind, Option.pure_def, List.length_nil, Int.cast_ofNat_Int, List.reverse_nil] at f1
  simp only [F18B, SS, insA, wantedA, Opd.ev, putA, binA, eqbA, unA, fldA, partA, reduceIte, reduceCtorEq, Nat.reduceMod, Nat.reduceDiv, Nat.reduceBEq, resultA, resA, vI, Nat.reduceMul, Nat.reduceAdd, Nat.reduceSub, Nat.reduceEqDiff, Nat.reduceLT, Nat.reducePow, Nat.reduceLeDiff, st, Option.bind_eq_bind, Option.pure_def, List.length_nil, Int.cast_ofNat_Int, List.reverse_nil, UU, idxP, cellsAt, fillA, zerosA, putAll, row, Int.reduceLT, Int.reduceLE, Int.reduceGT, Int.reduceGE, Int.reduceEq, Int.reduceNe, Int.reduceToNat, Int.reduceBEq, Int.reduceBNe, Nat.reduceLeDiff, Nat.reduceLT, Nat.reduceBNe, Nat.reduceGT, List.drop_nil, List.take_nil, Option.isSome_none, Int.ofNat_one, Int.ofNat_zero, c1, c2, f1, q1]
theorem all18_no {n : Int} (h : ¬ (1 ≤ n ∧ n ≤ 5)) : callL EV Y 18 [vI n] [] = some (.tup [.nils, vI 2], []) := by
  rw [call18 rfl]
  by_cases c1 : n < 1
  · simp only [F18B, SS, insA, wantedA, Opd.ev, putA, binA, eqbA, unA, fldA, partA, reduceIte, reduceCtorEq, Nat.reduceMod, Nat.reduceDiv, Nat.reduceBEq, resultA, resA, vI, Nat.reduceMul, Nat.reduceAdd, Nat.reduceSub, Nat.reduceEqDiff, Nat.reduceLT, Nat.reducePow, Nat.reduceLeDiff, st, Option.bind_eq_bind, Option.pure_def, List.length_nil, Int.cast_ofNat_Int, List.reverse_nil, UU, idxP, cellsAt, storeA, fillA, zerosA, putAll, optNat, sliceA, row, Int.reduceLT, Int.reduceLE, Int.reduceGT, Int.reduceGE, Int.reduceEq, Int.reduceNe, Int.reduceToNat, Int.reduceBEq, Int.reduceBNe, Nat.reduceLeDiff, Nat.reduceLT, Nat.reduceBNe, Nat.reduceGT, List.drop_nil, List.take_nil, Option.isSome_none, Int.ofNat_one, Int.ofNat_zero, c1]
  · have c2 : n > 5 := by omega
    simp only [F18B, SS, insA, wantedA, Opd.ev, putA, binA, eqbA, unA, fldA, partA, reduceIte, reduceCtorEq, Nat.reduceMod, Nat.reduceDiv, Nat.reduceBEq, resultA, resA, vI, Nat.reduceMul, Nat.reduceAdd, Nat.reduceSub, Nat.reduceEqDiff, Nat.reduceLT, Nat.reducePow, Nat.reduceLeDiff, st, Option.bind_eq_bind, Option.pure_def, List.length_nil, Int.cast_ofNat_Int, List.reverse_nil, UU, idxP, cellsAt, storeA, fillA, zerosA, putAll, optNat, sliceA, row, Int.reduceLT, Int.reduceLE, Int.reduceGT, Int.reduceGE, Int.reduceEq, Int.reduceNe, Int.reduceToNat, Int.reduceBEq, Int.reduceBNe, Nat.reduceLeDiff, Nat.reduceLT, Nat.reduceBNe, Nat.reduceGT, List.drop_nil, List.take_nil, Option.isSome_none, Int.ofNat_one, Int.ofNat_zero, c1, c2]
end
end Go.X
