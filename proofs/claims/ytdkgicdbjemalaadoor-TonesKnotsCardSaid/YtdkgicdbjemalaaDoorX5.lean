import Derived.Test.YtdkgicdbjemalaaDoorX4
/-! Calls that share no objects with their caller. -/
set_option linter.unusedSimpArgs false
set_option linter.unusedVariables false
set_option linter.unusedSectionVars false
namespace Go.X
open Go Go.RowKit

section
variable {P : Program} {W0 : World} [GlobOk W0] {G : Gh} {H : Heap} {w : World}

theorem mapM_spec {G' : Gh} {l m : Nat} {f : AV → Option AV} : ∀ {vs vs' : List AV} {cs : List Value}, vs.mapM f = some vs' → VL W0 G l vs cs → (∀ v v' c, f v = some v' → VR W0 G l v c → VR W0 G' m v' c) → VL W0 G' m vs' cs
  | [], vs', cs, h, hv, _ => by
    simp at h; subst h
    have : cs = [] := List.eq_nil_of_length_eq_zero (by simpa using hv.1.symm)
    subst this; exact VL.nil
  | v :: vs, vs', [], h, hv, _ => by simpa using hv.1
  | v :: vs, vs', c :: cs, h, hv, k => by
    simp only [List.mapM_cons, Option.bind_eq_bind, Option.pure_def] at h
    cases h1 : f v with
    | none => simp [h1] at h
    | some u =>
      cases h2 : vs.mapM f with
      | none => simp [h1, h2] at h
      | some us =>
        simp [h1, h2] at h; subst h
        exact VL.cons (k _ _ _ h1 hv.head.1) (mapM_spec h2 hv.head.2 k)

theorem mapM_length {α β : Type} {f : α → Option β} : ∀ {vs : List α} {vs' : List β}, vs.mapM f = some vs' → vs'.length = vs.length
  | [], vs', h => by simp at h; subst h; rfl
  | v :: vs, vs', h => by
    simp only [List.mapM_cons, Option.bind_eq_bind, Option.pure_def] at h
    cases h1 : f v with
    | none => simp [h1] at h
    | some u =>
      cases h2 : vs.mapM f with
      | none => simp [h1, h2] at h
      | some us => simp [h1, h2] at h; subst h; simp [mapM_length h2]

theorem mapM_get {α β : Type} {f : α → Option β} : ∀ {vs : List α} {vs' : List β}, vs.mapM f = some vs' → ∀ (i : Nat) (x : α), vs[i]? = some x → ∃ y, vs'[i]? = some y ∧ f x = some y
  | [], vs', h, i, x, hx => by simp at hx
  | v :: vs, vs', h, i, x, hx => by
    simp only [List.mapM_cons, Option.bind_eq_bind, Option.pure_def] at h
    cases h1 : f v with
    | none => simp [h1] at h
    | some u =>
      cases h2 : vs.mapM f with
      | none => simp [h1, h2] at h
      | some us =>
        simp [h1, h2] at h; subst h
        cases i with
        | zero => simp at hx; subst hx; exact ⟨u, rfl, h1⟩
        | succ i => simpa using mapM_get h2 i x (by simpa using hx)

/-- A row's cells, all of them behind what holds them: G' knows the row's block by C or D. -/
theorem row_spec (hR : Rel W0 G H w) {G' : Gh} (sn : Bool) {f : AV → Option AV} (hf : ∀ v v' c, f v = some v' → VR W0 G 0 v c → VR W0 G' (lv sn) v' c)
    (hblk : ∀ id v b S, G.ob id = some (v, b, S) → ∀ cs t, w.heap[b]? = some (.cells cs t (0, 0)) → ∃ s, (if sn then G'.D b = some s else G'.C b = some s) ∧ ∀ (j : Nat) (u : Value), cs[j]? = some u → s[j]? = some u)
    {id ver e off len : Nat} {cap : Option Nat} {c : Value} (hv : VR W0 G 0 (.sl id ver e off len cap) c) {o : Ob} (ho : H[id]? = some o) (hc : o.ver = ver ∧ off + len * e ≤ o.cells.length) {cs' : List AV}
    (hm : ((o.cells.drop off).take (len * e)).mapM f = some cs') : VR W0 G' (lv sn) (.imm sn cs' len) c := by
  cases hv with
  | sl _ _ _ _ _ _ a cc hcc hcap hob =>
    obtain ⟨v0, b, S, h1, h2, h3⟩ := hob
    obtain ⟨o', cs, cr, t, k1, k2, k3, k4, k5, k6⟩ := hR.obj _ _ _ _ h1
    rw [ho] at k1; cases k1
    obtain ⟨rfl, hle⟩ := hc
    obtain ⟨ha, hS⟩ := h3 k2
    have hcells := mapM_spec hm ((k6.drop off).take (len * e)) hf
    have hlen := mapM_length hm
    obtain ⟨s, hs1, hs2⟩ := hblk _ _ _ _ h1 _ _ k4
    have hcl := k6.1
    refine .imm sn cs' len (some a) cc (fun j => ((cs.drop off).take (len * e)).getD j Go.undef) (Nat.le_refl _) hcc (fun a' ha' j hj => ?_) (fun e => nomatch e) (fun j hj => hcells.2 j hj)
    cases ha'
    have hj' : j < len * e := by simp at hlen; omega
    have hl0 : 0 < len := by
      rcases Nat.eq_zero_or_pos len with h | h
      · subst h; simp at hj'
      · exact h
    rw [ha (by omega), Addr.add_off]
    have hlt : off + j < cs.length := by omega
    have hval : ((cs.drop off).take (len * e)).getD j Go.undef = cs[off + j] := by
      simp [List.getD_eq_getElem?_getD, List.getElem?_take, hj', List.getElem?_drop, hlt]
    have hs3 := hs2 (off + j) cs[off + j] (by simp [List.getElem?_append, hlt])
    refine .inr ⟨rfl, ?_⟩
    cases sn with
    | true => exact .inr ⟨rfl, s, hs1, by rw [hval]; exact hs3⟩
    | false => exact .inl ⟨s, hs1, by rw [hval]; exact hs3⟩

/-- The same for a place. -/
theorem place_spec (hR : Rel W0 G H w) {G' : Gh} (sn : Bool) {f : AV → Option AV} (hf : ∀ v v' c, f v = some v' → VR W0 G 0 v c → VR W0 G' (lv sn) v' c)
    (hblk : ∀ id v b S, G.ob id = some (v, b, S) → ∀ cs t, w.heap[b]? = some (.cells cs t (0, 0)) → ∃ s, (if sn then G'.D b = some s else G'.C b = some s) ∧ ∀ (j : Nat) (u : Value), cs[j]? = some u → s[j]? = some u)
    {id ver off : Nat} {c : Value} (hv : VR W0 G 0 (.ptr id ver off) c) {o : Ob} (ho : H[id]? = some o) (hc : o.ver = ver ∧ off ≤ o.cells.length) {cs' : List AV}
    (hm : (o.cells.drop off).mapM f = some cs') : VR W0 G' (lv sn) (.cptr sn cs') c := by
  cases hv with
  | ptr _ _ _ a hob =>
    obtain ⟨v0, b, S, h1, h2, h3⟩ := hob
    obtain ⟨o', cs, cr, t, k1, k2, k3, k4, k5, k6⟩ := hR.obj _ _ _ _ h1
    rw [ho] at k1; cases k1
    obtain ⟨rfl, hle⟩ := hc
    have ha := h3 k2
    have hcells := mapM_spec hm (k6.drop off) hf
    have hlen := mapM_length hm
    obtain ⟨s, hs1, hs2⟩ := hblk _ _ _ _ h1 _ _ k4
    have hcl := k6.1
    refine .cptr sn cs' a (fun j => (cs.drop off).getD j Go.undef) (Nat.le_refl _) (fun j hj => ?_) (fun j hj => hcells.2 j hj)
    rw [ha, Addr.add_off]
    have hlt : off + j < cs.length := by simp at hlen; omega
    have hval : (cs.drop off).getD j Go.undef = cs[off + j] := by
      simp [List.getD_eq_getElem?_getD, List.getElem?_drop, hlt]
    have hs3 := hs2 (off + j) cs[off + j] (by simp [List.getElem?_append, hlt])
    refine .inr ⟨rfl, ?_⟩
    cases sn with
    | true => exact .inr ⟨rfl, s, hs1, by rw [hval]; exact hs3⟩
    | false => exact .inl ⟨s, hs1, by rw [hval]; exact hs3⟩

theorem snapA_spec (hR : Rel W0 G H w) {G' : Gh} (hL : Le 1 G G')
    (hblk : ∀ id v b S, G.ob id = some (v, b, S) → ∀ cs t, w.heap[b]? = some (.cells cs t (0, 0)) → ∃ s, G'.D b = some s ∧ ∀ (j : Nat) (u : Value), cs[j]? = some u → s[j]? = some u) :
    ∀ (d : Nat) (v v' : AV) (c : Value), snapA H d v = some v' → VR W0 G 0 v c → VR W0 G' 1 v' c := by
  intro d
  induction d with
  | zero => intro v v' c h; simp [snapA] at h
  | succ d ih =>
    intro v v' c h hv
    unfold snapA at h
    split at h
    · cases h; exact .undef _
    · cases h; cases hv; exact .bool _
    · cases h; cases hv; exact .int _ _
    · cases h; cases hv; exact .nilp
    · cases h; cases hv; exact .nils
    · cases h; cases hv; exact .nilf
    · cases h; cases hv; exact .nili
    · rename_i sn cells len
      cases h
      cases hv with
      | imm _ _ _ A cc u hl hc h h0 r => exact (VR.imm sn cells len A cc u (l := 1) (by cases sn <;> simp [lv]) hc h h0 r).mono hL
    · rename_i f caps
      cases hm : caps.mapM (snapA H d) with
      | none => simp [hm] at h
      | some cs' =>
        simp [hm] at h; subst h
        cases hv with
        | fn _ _ cs hn r =>
          have := mapM_spec hm ⟨hn, r⟩ (fun v v' c => ih v v' c)
          exact .fn _ cs' cs this.1 this.2
    · rename_i sn cells
      cases h
      cases hv with
      | cptr _ _ a u hl h r => exact (VR.cptr sn cells a u (l := 1) (by cases sn <;> simp [lv]) h r).mono hL
    · rename_i id ver off
      split at h
      · rename_i o ho
        split at h
        · rename_i hc
          cases hm : (o.cells.drop off).mapM (snapA H d) with
          | none => simp [hm] at h
          | some cs' =>
            simp [hm] at h; subst h
            exact place_spec hR true (fun v v' c => ih v v' c) (fun id v b S hid cs t hb => by simpa using hblk id v b S hid cs t hb) hv ho hc hm
        · cases h
      · cases h
    · rename_i id ver e off len cap
      split at h
      · rename_i o ho
        split at h
        · rename_i hc
          cases hm : ((o.cells.drop off).take (len * e)).mapM (snapA H d) with
          | none => simp [hm] at h
          | some cs' =>
            simp [hm] at h; subst h
            exact row_spec hR true (fun v v' c => ih v v' c) (fun id v b S hid cs t hb => by simpa using hblk id v b S hid cs t hb) hv ho hc hm
        · cases h
      · cases h
    · rename_i cells
      cases hm : cells.mapM (snapA H d) with
      | none => simp [hm] at h
      | some cs' =>
        simp [hm] at h; subst h
        cases hv with
        | agg _ cs hn r => exact VR.aggA (mapM_spec hm ⟨hn, r⟩ (fun v v' c => ih v v' c))
    · rename_i cells
      cases hm : cells.mapM (snapA H d) with
      | none => simp [hm] at h
      | some cs' =>
        simp [hm] at h; subst h
        cases hv with
        | tup _ cs hn r => exact VR.tupA (mapM_spec hm ⟨hn, r⟩ (fun v v' c => ih v v' c))
    · rename_i t v
      cases hm : snapA H d v with
      | none => simp [hm] at h
      | some u =>
        simp [hm] at h; subst h
        cases hv with
        | iface _ _ c r => exact .iface _ _ _ (ih _ _ _ hm r)
    · cases h

theorem freeA_spec (hR : Rel W0 G H w) {G' : Gh} (hL : Le 2 G G')
    (hblk : ∀ id v b S, G.ob id = some (v, b, S) → ∀ cs t, w.heap[b]? = some (.cells cs t (0, 0)) → ∃ s, G'.C b = some s ∧ ∀ (j : Nat) (u : Value), cs[j]? = some u → s[j]? = some u) :
    ∀ (d : Nat) (v v' : AV) (c : Value), freeA H d v = some v' → VR W0 G 0 v c → VR W0 G' 2 v' c := by
  intro d
  induction d with
  | zero => intro v v' c h; simp [freeA] at h
  | succ d ih =>
    intro v v' c h hv
    unfold freeA at h
    split at h
    · cases h; exact .undef _
    · cases h; cases hv; exact .bool _
    · cases h; cases hv; exact .int _ _
    · cases h; cases hv; exact .nilp
    · cases h; cases hv; exact .nils
    · cases h; cases hv; exact .nilf
    · cases h; cases hv; exact .nili
    · rename_i cells len
      cases h
      cases hv with
      | imm _ _ _ A cc u hl hc h h0 r => exact (VR.imm false cells len A cc u (l := 2) (by simp [lv]) hc h h0 r).mono hL
    · cases h
      cases hv with
      | fn _ _ cs hn r => exact .fn _ [] cs hn (fun j hj => absurd hj (by simp))
    · rename_i id ver e off len cap
      split at h
      · rename_i o ho
        split at h
        · rename_i hc
          cases hm : ((o.cells.drop off).take (len * e)).mapM (freeA H d) with
          | none => simp [hm] at h
          | some cs' =>
            simp [hm] at h; subst h
            exact row_spec hR false (fun v v' c => ih v v' c) (fun id v b S hid cs t hb => by simpa using hblk id v b S hid cs t hb) hv ho hc hm
        · cases h
      · cases h
    · rename_i cells
      cases hm : cells.mapM (freeA H d) with
      | none => simp [hm] at h
      | some cs' =>
        simp [hm] at h; subst h
        cases hv with
        | agg _ cs hn r => exact VR.aggA (mapM_spec hm ⟨hn, r⟩ (fun v v' c => ih v v' c))
    · rename_i cells
      cases hm : cells.mapM (freeA H d) with
      | none => simp [hm] at h
      | some cs' =>
        simp [hm] at h; subst h
        cases hv with
        | tup _ cs hn r => exact VR.tupA (mapM_spec hm ⟨hn, r⟩ (fun v v' c => ih v v' c))
    · rename_i t v
      cases hm : freeA H d v with
      | none => simp [hm] at h
      | some u =>
        simp [hm] at h; subst h
        cases hv with
        | iface _ _ c r => exact .iface _ _ _ (ih _ _ _ hm r)
    · cases h

theorem shiftA_spec {G' : Gh} {n : Nat} (hL : Le 2 G G') (hob : ∀ id x, G.ob id = some x → G'.ob (id + n) = some x) :
    ∀ (d : Nat) (v v' : AV) (c : Value), shiftA n d v = some v' → VR W0 G 0 v c → VR W0 G' 0 v' c := by
  intro d
  induction d with
  | zero => intro v v' c h; simp [shiftA] at h
  | succ d ih =>
    intro v v' c h hv
    unfold shiftA at h
    split at h
    · cases h; exact .undef _
    · cases h; cases hv; exact .bool _
    · cases h; cases hv; exact .int _ _
    · cases h; cases hv; exact .nilp
    · cases h; cases hv; exact .nils
    · cases h; cases hv; exact .nilf
    · cases h; cases hv; exact .nili
    · rename_i cells len
      cases h
      cases hv with
      | imm _ _ _ A cc u hl hc h h0 r => exact ((VR.imm false cells len A cc u (l := 2) (by simp [lv]) hc h h0 r).mono hL).weaken (by omega)
    · cases h
      cases hv with
      | fn _ _ cs hn r => exact .fn _ [] cs hn (fun j hj => absurd hj (by simp))
    · rename_i id ver e off len cap
      cases h
      cases hv with
      | sl _ _ _ _ _ _ a cc hcc hcap h =>
        obtain ⟨v0, b, S, h1, h2, h3⟩ := h
        exact .sl _ _ _ _ _ _ a cc hcc hcap ⟨v0, b, S, hob _ _ h1, h2, h3⟩
    · rename_i id ver off
      cases h
      cases hv with
      | ptr _ _ _ a h =>
        obtain ⟨v0, b, S, h1, h2, h3⟩ := h
        exact .ptr _ _ _ a ⟨v0, b, S, hob _ _ h1, h2, h3⟩
    · rename_i cells
      cases hm : cells.mapM (shiftA n d) with
      | none => simp [hm] at h
      | some cs' =>
        simp [hm] at h; subst h
        cases hv with
        | agg _ cs hn r => exact VR.aggA (mapM_spec hm ⟨hn, r⟩ (fun v v' c => ih v v' c))
    · rename_i cells
      cases hm : cells.mapM (shiftA n d) with
      | none => simp [hm] at h
      | some cs' =>
        simp [hm] at h; subst h
        cases hv with
        | tup _ cs hn r => exact VR.tupA (mapM_spec hm ⟨hn, r⟩ (fun v v' c => ih v v' c))
    · rename_i t v
      cases hm : shiftA n d v with
      | none => simp [hm] at h
      | some u =>
        simp [hm] at h; subst h
        cases hv with
        | iface _ _ c r => exact .iface _ _ _ (ih _ _ _ hm r)
    · cases h

/-- What a block holds. -/
def held (w : World) (b : Nat) : Option (List Value) := match w.heap[b]? with
  | some (.cells c _ _) => some c.toList
  | _ => none

theorem held_of {b : Nat} {c : Array Value} {t : TypeId} {fr : Nat × Nat} (h : w.heap[b]? = some (.cells c t fr)) : held w b = some c.toList := by simp [held, h]

open Classical in
/-- The ghost of a call that shares nothing. -/
noncomputable def Gh.iso (G : Gh) (w : World) : Gh where
  ob := fun _ => none
  C := G.C
  D := fun b => if ∃ id v S, G.ob id = some (v, b, S) then held w b else G.D b

theorem Rel.iso (hR : Rel W0 G H w) : Rel W0 (G.iso w) [] w ∧ Le 1 G (G.iso w) ∧
    (∀ id v b S, G.ob id = some (v, b, S) → ∀ cs t, w.heap[b]? = some (.cells cs t (0, 0)) → ∃ s, (G.iso w).D b = some s ∧ ∀ (j : Nat) (u : Value), cs[j]? = some u → s[j]? = some u) := by
  refine ⟨⟨hR.below, fun id v b S h => (nomatch h), fun id v b S h => (nomatch h), fun _ _ _ _ _ _ _ h => (nomatch h), hR.C, fun b s h => ?_, fun id v b S h => nomatch h⟩, ⟨fun e => absurd e (by decide), fun _ b s h => ?_, fun _ _ h => h⟩, fun id v b S h cs t hb => ?_⟩
  · simp only [Gh.iso] at h
    split at h
    · rename_i hx
      obtain ⟨id, v, S, hx⟩ := hx
      obtain ⟨o, cs, cr, t, k1, k2, k3, k4, k5, k6⟩ := hR.obj _ _ _ _ hx
      rw [held_of k4] at h; cases h
      exact ⟨k3, _, _, _, k4, fun j u hu => by simpa using hu⟩
    · exact hR.D _ _ h
  · simp only [Gh.iso]
    rw [if_neg]
    · exact h
    · rintro ⟨id, v, S, hx⟩
      rw [(hR.ap _ _ _ _ hx).2] at h; cases h
  · refine ⟨cs.toList, ?_, fun j u hu => by simpa using hu⟩
    simp only [Gh.iso]
    rw [if_pos ⟨id, v, S, h⟩, held_of hb]

open Classical in
/-- Behind it: what it made does not change any more. -/
noncomputable def Gh.fix (G G' : Gh) (w' : World) : Gh where
  ob := G.ob
  C := fun b => if ∃ id v S, G'.ob id = some (v, b, S) then held w' b else G'.C b
  D := G.D

theorem Rel.fix (hR : Rel W0 G H w) {G' : Gh} {H' : Heap} {w' : World} (hR' : Rel W0 G' H' w') (hE : Ext (G.iso w) [] w G' w') :
    Rel W0 (G.fix G' w') H w' ∧ Ext G H w (G.fix G' w') w' ∧ Le 2 G' (G.fix G' w') ∧
    (∀ id v b S, G'.ob id = some (v, b, S) → ∀ cs t, w'.heap[b]? = some (.cells cs t (0, 0)) → ∃ s, (G.fix G' w').C b = some s ∧ ∀ (j : Nat) (u : Value), cs[j]? = some u → s[j]? = some u) := by
  have hnew : ∀ id v b S, G'.ob id = some (v, b, S) → w.heap.size ≤ b := fun id v b S h => (hE.new _ _ _ _ h rfl).2
  have hC2 : ∀ b s, G'.C b = some s → (G.fix G' w').C b = some s := fun b s h => by
    simp only [Gh.fix]
    rw [if_neg]
    · exact h
    · rintro ⟨id, v, S, hx⟩
      rw [(hR'.ap _ _ _ _ hx).1] at h; cases h
  have hC : ∀ b s, G.C b = some s → (G.fix G' w').C b = some s := fun b s h => hC2 _ _ (hE.le.C b s h)
  have hle : Le 0 G (G.fix G' w') := ⟨fun _ id v b S h => ⟨v, b, S, h, Nat.le_refl _, fun _ => ⟨rfl, rfl⟩⟩, fun _ _ _ h => h, hC⟩
  have hsame : ∀ b, b < w.heap.size → w'.heap[b]? = w.heap[b]? := fun b hb => hE.frame b hb (fun _ _ _ h => nomatch h)
  refine ⟨⟨hR'.below, hR.dom, fun id v b S h => ?_, hR.inj, fun b s h => ?_, fun b s h => ?_, fun id v b S h => ⟨?_, (hR.ap _ _ _ _ h).2⟩⟩, ⟨hle, rfl, fun id v b S v' b' S' h h' => ?_, fun id v b S h h' => ?_, fun b s h => ?_, hE.size, fun b hb _ => hsame b hb⟩, ⟨fun e => absurd e (by decide), fun e => absurd e (by decide), hC2⟩, fun id v b S h cs t hb => ?_⟩
  · obtain ⟨o, cs, cr, t, k1, k2, k3, k4, k5, k6⟩ := hR.obj _ _ _ _ h
    exact ⟨o, cs, cr, t, k1, k2, k3, by rw [hsame _ (blk_lt' k4)]; exact k4, k5, k6.mono hle⟩
  · simp only [Gh.fix] at h
    split at h
    · rename_i hx
      obtain ⟨id, v, S, hx⟩ := hx
      obtain ⟨o, cs, cr, t, k1, k2, k3, k4, k5, k6⟩ := hR'.obj _ _ _ _ hx
      rw [held_of k4] at h; cases h
      exact ⟨k3, _, _, _, k4, fun j u hu => by simpa using hu⟩
    · exact hR'.C _ _ h
  · obtain ⟨h1, c, t, fr, h2, h3⟩ := hR.D _ _ h
    exact ⟨h1, c, t, fr, by rw [hsame _ (blk_lt' h2)]; exact h2, h3⟩
  · obtain ⟨o, cs, cr, t, k1, k2, k3, k4, k5, k6⟩ := hR.obj _ _ _ _ h
    have hlt := blk_lt' k4
    simp only [Gh.fix]
    rw [if_neg]
    · cases hq : G'.C b with
      | none => rfl
      | some s =>
        rcases hE.Cn _ _ hq with e | e
        · have : G.C b = some s := e
          rw [(hR.ap _ _ _ _ h).1] at this; cases this
        · omega
    · rintro ⟨id', v', S', hx⟩
      have := hnew _ _ _ _ hx; omega
  · have h1 : G.ob id = some (v', b', S') := h'
    rw [h] at h1; cases h1; exact .inl rfl
  · have h1 : G.ob id = some (v, b, S) := h
    rw [h'] at h1; cases h1
  · simp only [Gh.fix] at h
    split at h
    · rename_i hx
      obtain ⟨id, v, S, hx⟩ := hx
      exact .inr (hnew _ _ _ _ hx)
    · exact hE.Cn _ _ h
  · refine ⟨cs.toList, ?_, fun j u hu => by simpa using hu⟩
    simp only [Gh.fix]
    rw [if_pos ⟨id, v, S, h⟩, held_of hb]

/-- Behind a call whose objects are taken over. -/
def Gh.imp (G G' : Gh) (n : Nat) : Gh where
  ob := fun id => if id < n then G.ob id else G'.ob (id - n)
  C := G'.C
  D := G.D

theorem Rel.imp (hR : Rel W0 G H w) {G' : Gh} {H' H'' : Heap} {w' : World} (hR' : Rel W0 G' H' w') (hE : Ext (G.iso w) [] w G' w') (hg : Gr G' [] H') (hs : H'.mapM (shiftO H.length) = some H'') :
    Rel W0 (G.imp G' H.length) (H ++ H'') w' ∧ Ext G H w (G.imp G' H.length) w' ∧ Le 2 G' (G.imp G' H.length) ∧ (∀ id x, G'.ob id = some x → (G.imp G' H.length).ob (id + H.length) = some x) ∧ Gr (G.imp G' H.length) H (H ++ H'') := by
  have hnew : ∀ id v b S, G'.ob id = some (v, b, S) → w.heap.size ≤ b := fun id v b S h => (hE.new _ _ _ _ h rfl).2
  have hC : ∀ b s, G.C b = some s → G'.C b = some s := fun b s h => hE.le.C b s h
  have hle : Le 0 G (G.imp G' H.length) := ⟨fun _ id v b S h => ⟨v, b, S, by simp [Gh.imp, hR.dom _ _ _ _ h, h], Nat.le_refl _, fun _ => ⟨rfl, rfl⟩⟩, fun _ _ _ h => h, hC⟩
  have hle2 : Le 2 G' (G.imp G' H.length) := ⟨fun e => absurd e (by decide), fun e => absurd e (by decide), fun _ _ h => h⟩
  have hob : ∀ id x, G'.ob id = some x → (G.imp G' H.length).ob (id + H.length) = some x := fun id x h => by
    have hn : ¬ id + H.length < H.length := by omega
    simp only [Gh.imp, hn, if_false, Nat.add_sub_cancel]; exact h
  have hsame : ∀ b, b < w.heap.size → w'.heap[b]? = w.heap[b]? := fun b hb => hE.frame b hb (fun _ _ _ h => nomatch h)
  have hlen := mapM_length hs
  have hold : ∀ id v b S, G.ob id = some (v, b, S) → b < w.heap.size := fun id v b S h => by
    obtain ⟨o, cs, cr, t, k1, k2, k3, k4, k5, k6⟩ := hR.obj _ _ _ _ h
    exact blk_lt' k4
  refine ⟨⟨hR'.below, fun id v b S h => ?_, fun id v b S h => ?_, fun id id' v b S v' S' h h' => ?_, hR'.C, fun b s h => ?_, fun id v b S h => ?_⟩, ⟨hle, rfl, fun id v b S v' b' S' h h' => ?_, fun id v b S h h' => ?_, fun b s h => hE.Cn _ _ h, hE.size, fun b hb _ => hsame b hb⟩, hle2, hob, ⟨by simp, fun id h1 h2 => ?_⟩⟩
  · simp only [Gh.imp] at h
    split at h
    · simp; omega
    · have := hR'.dom _ _ _ _ h; simp; omega
  · simp only [Gh.imp] at h
    split at h
    · obtain ⟨o, cs, cr, t, k1, k2, k3, k4, k5, k6⟩ := hR.obj _ _ _ _ h
      exact ⟨o, cs, cr, t, by rw [List.getElem?_append_left (by omega)]; exact k1, k2, k3, by rw [hsame _ (blk_lt' k4)]; exact k4, k5, k6.mono hle⟩
    · rename_i hid
      obtain ⟨o, cs, cr, t, k1, k2, k3, k4, k5, k6⟩ := hR'.obj _ _ _ _ h
      obtain ⟨o', k7, k8⟩ := mapM_get hs _ _ k1
      unfold shiftO at k8
      cases hm : o.cells.mapM (shiftA H.length depth) with
      | none =>
        simp [hm] at k8; subst k8
        refine ⟨⟨o.ver, o.cells.map fun c => (shiftA H.length depth c).getD .undef⟩, cs, cr, t, by rw [List.getElem?_append_right (by omega)]; exact k7, k2, k3, k4, k5, by simpa using k6.1, fun j hj => ?_⟩
        have hj' : j < o.cells.length := by simpa using hj
        have e : (o.cells.map fun c => (shiftA H.length depth c).getD .undef).getD j .undef = (shiftA H.length depth o.cells[j]).getD .undef := by
          simp [List.getD_eq_getElem?_getD, hj']
        show VR W0 _ 0 ((o.cells.map fun c => (shiftA H.length depth c).getD .undef).getD j .undef) _
        rw [e]
        cases hq : shiftA H.length depth o.cells[j] with
        | none => exact .undef _
        | some v' =>
          have := k6.2 j hj'
          rw [List.getD_eq_getElem?_getD, List.getElem?_eq_getElem hj', Option.getD_some] at this
          exact shiftA_spec hle2 hob depth _ _ _ hq this
      | some cs' =>
        simp [hm] at k8; subst k8
        exact ⟨⟨o.ver, cs'⟩, cs, cr, t, by rw [List.getElem?_append_right (by omega)]; exact k7, k2, k3, k4, k5, mapM_spec hm k6 (fun v v' c => shiftA_spec hle2 hob depth v v' c)⟩
  · simp only [Gh.imp] at h h'
    split at h <;> split at h'
    · exact hR.inj _ _ _ _ _ _ _ h h'
    · have := hold _ _ _ _ h; have := hnew _ _ _ _ h'; omega
    · have := hold _ _ _ _ h'; have := hnew _ _ _ _ h; omega
    · have := hR'.inj _ _ _ _ _ _ _ h h'; omega
  · obtain ⟨h1, c, t, fr, h2, h3⟩ := hR.D _ _ h
    exact ⟨h1, c, t, fr, by rw [hsame _ (blk_lt' h2)]; exact h2, h3⟩
  · simp only [Gh.imp] at h
    split at h
    · refine ⟨?_, (hR.ap _ _ _ _ h).2⟩
      have hlt := hold _ _ _ _ h
      show G'.C b = none
      cases hq : G'.C b with
      | none => rfl
      | some s =>
        rcases hE.Cn _ _ hq with e | e
        · have : G.C b = some s := e
          rw [(hR.ap _ _ _ _ h).1] at this; cases this
        · omega
    · refine ⟨(hR'.ap _ _ _ _ h).1, ?_⟩
      show G.D b = none
      cases hq : G.D b with
      | none => rfl
      | some s =>
        obtain ⟨_, c, t, fr, h2, _⟩ := hR.D _ _ hq
        have := blk_lt' h2; have := hnew _ _ _ _ h; omega
  · have h1 := h'
    simp only [Gh.imp, hR.dom _ _ _ _ h, if_true] at h1
    rw [h] at h1; cases h1; exact .inl rfl
  · simp only [Gh.imp] at h
    split at h
    · rw [h'] at h; cases h
    · exact ⟨by omega, hnew _ _ _ _ h⟩
  · simp at h2
    obtain ⟨x, hx⟩ := hg.tot (id - H.length) (Nat.zero_le _) (by omega)
    have := hob _ _ hx
    rw [Nat.sub_add_cancel h1] at this
    exact ⟨x, this⟩

/-- A call in any of the ways. -/
theorem callA_spec {R : Nat → List AV → Heap → Option (AV × Heap)} (RS : CallSound P W0 R) {mode f : Nat} {args : List AV} {v : AV} {H' : Heap} (h : callA R mode f args H = some (v, H')) :
    CallOk P f ∧ ∀ G w cargs, Rel W0 G H w → VL W0 G 0 args cargs → Calls P f cargs.toArray w (Post W0 G H w v H') := by
  unfold callA at h
  split at h
  · obtain ⟨hok, hcall⟩ := RS _ _ _ _ _ h
    exact ⟨hok.1, hcall⟩
  · cases ha : args.mapM (snapA H depth) with
    | none => simp [ha] at h
    | some as =>
      simp only [ha] at h
      cases hr : R f as [] with
      | none => simp [hr] at h
      | some r =>
        obtain ⟨v1, H1⟩ := r
        simp only [hr] at h
        cases hf : freeA H1 depth v1 with
        | none => simp [hf] at h
        | some v2 =>
          simp [hf] at h
          obtain ⟨rfl, rfl⟩ := h
          obtain ⟨hok, hcall⟩ := RS _ _ _ _ _ hr
          refine ⟨hok.1, fun G w cargs hR hv => ?_⟩
          obtain ⟨i1, i2, i3⟩ := hR.iso
          refine (hcall _ w cargs i1 (VL.weaken (mapM_spec ha hv (fun v v' c => snapA_spec hR i2 i3 depth v v' c)) (Nat.zero_le 1))).mono ?_
          rintro e w' ⟨c, G', rfl, hvc, hR', hE, hg⟩
          obtain ⟨f1, f2, f3, f4⟩ := hR.fix hR' hE
          exact ⟨c, _, rfl, (freeA_spec hR' f3 f4 depth _ _ _ hf hvc).weaken (Nat.zero_le 2), f1, f2, Gr.same rfl⟩
  · split at h
    · rename_i hs
      cases hr : R f args H with
      | none => simp [hr] at h
      | some r =>
        obtain ⟨v1, H1⟩ := r
        simp [hr] at h
        obtain ⟨rfl, rfl⟩ := h
        obtain ⟨hok, hcall⟩ := RS _ _ _ _ _ hr
        obtain rfl := hok.2 hs
        exact ⟨hok.1, hcall⟩
    · cases h
  · cases ha : args.mapM (snapA H depth) with
    | none => simp [ha] at h
    | some as =>
      simp only [ha] at h
      cases hr : R f as [] with
      | none => simp [hr] at h
      | some r =>
        obtain ⟨v1, H1⟩ := r
        simp only [hr] at h
        split at h
        · rename_i v2 H2 hf hs
          cases h
          obtain ⟨hok, hcall⟩ := RS _ _ _ _ _ hr
          refine ⟨hok.1, fun G w cargs hR hv => ?_⟩
          obtain ⟨i1, i2, i3⟩ := hR.iso
          refine (hcall _ w cargs i1 (VL.weaken (mapM_spec ha hv (fun v v' c => snapA_spec hR i2 i3 depth v v' c)) (Nat.zero_le 1))).mono ?_
          rintro e w' ⟨c, G', rfl, hvc, hR', hE, hg⟩
          obtain ⟨f1, f2, f3, f4, f5⟩ := hR.imp hR' hE hg hs
          exact ⟨c, _, rfl, shiftA_spec f3 f4 depth _ _ _ hf hvc, f1, f2, f5⟩
        · cases h
end
end Go.X
