import Derived.Test.YtdkgicdbjemalaaDoorX3
import Derived.Deep.AppendSrc
/-! Cuts, appends, numbers. -/
set_option linter.unusedSimpArgs false
set_option linter.unusedVariables false
set_option linter.unusedSectionVars false
namespace Go.X
open Go Go.RowKit

section
variable {P : Program} {W0 : World} [GlobOk W0] {G : Gh} {H : Heap} {w : World}

theorem sliceBound_run {k : IntKind} {z : Int} {y : Nat} {code : BoundsCode} (h0 : 0 ≤ z) (h : z.toNat ≤ y) (w : World) : (Instr.sliceBound (.int k z) y code).run P w = .ok z.toNat w := by
  have : z ≤ (y : Int) := by omega
  simp [Instr.sliceBound, asIntOf, h0, this]

/-- An optional bound. -/
def BO (G : Gh) (W0 : World) (o : Option AV) (c : Option Value) : Prop :=
  match o, c with
  | none, none => True
  | some v, some u => VR W0 G 0 v u
  | _, _ => False

theorem bo_of {fr : List AV} {a : Act} (hF : FR W0 G fr a.tmps) (o : Option Operand) : BO G W0 ((o.map opdA).map (·.ev fr)) (o.map a.eval) := by
  cases o with
  | none => trivial
  | some x => exact hF.ev x

theorem optNat_spec {o : Option AV} {c : Option Value} (h : BO G W0 o c) {d n : Nat} (hn : optNat o d = some n) : (c = none ∧ n = d) ∨ (∃ k z, c = some (.int k z) ∧ 0 ≤ z ∧ z.toNat = n) := by
  cases o with
  | none => cases c with
    | none => simp [optNat] at hn; exact .inl ⟨rfl, hn.symm⟩
    | some u => exact absurd h (by simp [BO])
  | some v => cases c with
    | none => exact absurd h (by simp [BO])
    | some u =>
      obtain ⟨k, z, rfl, h0, hz⟩ := natOf_spec h hn
      exact .inr ⟨k, z, rfl, h0, hz⟩

/-- The bounds of a cut without a third index. -/
theorem bounds_run {len cap l h : Nat} {lo hi : Option AV} {clo chi : Option Value} (hlo : BO G W0 lo clo) (hhi : BO G W0 hi chi) (hl : optNat lo 0 = some l) (hh : optNat hi len = some h) (hlh : l ≤ h) (hhc : h ≤ cap) (w : World) :
    (Instr.sliceBounds true len cap clo chi none).run P w = .ok (l, h, cap) w := by
  rcases optNat_spec hlo hl with ⟨rfl, rfl⟩ | ⟨k, z, rfl, h0, hz⟩ <;> rcases optNat_spec hhi hh with ⟨rfl, rfl⟩ | ⟨k', z', rfl, h0', hz'⟩
  · simp [Instr.sliceBounds]
  · simp [Instr.sliceBounds, sliceBound_run h0' (show z'.toNat ≤ cap by omega), hz']
  · simp [Instr.sliceBounds, sliceBound_run h0 (show z.toNat ≤ h by omega), hz]
  · simp [Instr.sliceBounds, sliceBound_run h0' (show z'.toNat ≤ cap by omega), hz', sliceBound_run h0 (show z.toNat ≤ h by omega), hz]

theorem bounds_run3 {len cap l h m : Nat} {lo hi : Option AV} {mx : AV} {clo : Option Value} {chi : Value} {cmx : Value} (hlo : BO G W0 lo clo) (hhi : VR W0 G 0 (hi.getD .undef) chi) (hmx : VR W0 G 0 mx cmx) (hl : optNat lo 0 = some l) (hh : optNat hi len = some h) (hhi' : hi.isSome = true) (hm : natOf mx = some m)
    (hlh : l ≤ h) (hhc : h ≤ m) (hmc : m ≤ cap) (w : World) :
    (Instr.sliceBounds true len cap clo (some chi) (some cmx)).run P w = .ok (l, h, m) w := by
  obtain ⟨km, zm, rfl, m0, hzm⟩ := natOf_spec hmx hm
  cases hi with
  | none => simp at hhi'
  | some hv =>
    obtain ⟨k', z', rfl, h0', hz'⟩ := natOf_spec (i := hv) hhi hh
    rcases optNat_spec hlo hl with ⟨rfl, rfl⟩ | ⟨k, z, rfl, h0, hz⟩
    · simp [Instr.sliceBounds, sliceBound_run m0 (show zm.toNat ≤ cap by omega), hzm, sliceBound_run h0' (show z'.toNat ≤ m by omega), hz']
    · simp [Instr.sliceBounds, sliceBound_run m0 (show zm.toNat ≤ cap by omega), hzm, sliceBound_run h0' (show z'.toNat ≤ m by omega), hz', sliceBound_run h0 (show z.toNat ≤ h by omega), hz]

theorem sliceA_spec {t e : TypeId} {esz : Nat} (ht : P.underlying t = some (.slice e)) (hs : sizeA P e = some esz) {x v : AV} {c : Value} {lo hi mx : Option AV} {clo chi cmx : Option Value} (hx : VR W0 G 0 x c)
    (hlo : BO G W0 lo clo) (hhi : BO G W0 hi chi) (hmx : BO G W0 mx cmx) (hv : sliceA esz x lo hi mx = some v) : ∃ u, (Instr.sliceAt t c clo chi cmx).run P w = .ok u w ∧ VR W0 G 0 v u := by
  cases hx with
  | nils =>
    simp only [sliceA] at hv
    split at hv
    · rename_i h1 h2
      cases hv
      cases cmx with
      | some _ => exact absurd hmx (by simp [BO])
      | none =>
        refine ⟨.slice none 0 0, ?_, .nils⟩
        simp [Instr.sliceAt, Instr.slice, run_underlying ht, bounds_run hlo hhi h1 h2 (Nat.le_refl _) (Nat.le_refl 0), run_sizeOf' hs]
    · cases hv
  | imm sn cells len A cc uu hl hc h h0 r =>
    simp only [sliceA] at hv
    split at hv
    · rename_i l hh h1 h2
      split at hv
      · rename_i hle
        obtain ⟨hlh, hhl⟩ := hle
        cases hv
        cases cmx with
        | some _ => exact absurd hmx (by simp [BO])
        | none =>
          have hb := bounds_run (P := P) (cap := cc) hlo hhi h1 h2 hlh (by omega)
          refine ⟨.slice (if cc = l then A else A.map (·.add (l * esz))) (hh - l) (cc - l), ?_, ?_⟩
          · simp [Instr.sliceAt, Instr.slice, run_underlying ht, hb, run_sizeOf' hs]
          · by_cases e : cc = l
            · have e0 : hh - l = 0 := by omega
              rw [if_pos e, e0]
              exact .imm sn _ 0 A _ uu (by omega) (Nat.zero_le _) (fun a ha j hj => by simp at hj) (fun ea => ⟨rfl, by simp⟩) (fun j hj => by simp at hj)
            · rw [if_neg e]
              refine .imm sn _ _ _ _ (fun q => uu (l * esz + q)) (by omega) (by omega) (fun a ha j hj => ?_) (fun ea => ?_) (fun j hj => ?_)
              · cases A with
                | none => simp at ha
                | some a0 =>
                  simp at ha; subst ha
                  rw [Addr.add_add]
                  exact h a0 rfl _ (by simp at hj; omega)
              · cases A with
                | none =>
                  obtain ⟨q1, q2⟩ := h0 rfl
                  subst q2
                  exact ⟨by omega, by simp⟩
                | some a0 => simp at ea
              · have hj' : j < (hh - l) * esz := by simp at hj; omega
                have := r (l * esz + j) (by simp at hj; omega)
                simpa [List.getD_eq_getElem?_getD, List.getElem?_drop, List.getElem?_take, hj'] using this
      · cases hv
    · cases hv
  | sl id ver e' off len cap a cc hc hcap h =>
    simp only [sliceA] at hv
    split at hv
    · rename_i l hh h1 h2
      split at hv
      · rename_i hle
        obtain ⟨rfl, hlh, hhl⟩ := hle
        cases hv
        cases cmx with
        | some _ => exact absurd hmx (by simp [BO])
        | none =>
          have hb := bounds_run (P := P) (cap := cc) hlo hhi h1 h2 hlh (by omega)
          refine ⟨.slice (some (if cc = l then a else a.add (l * e'))) (hh - l) (cc - l), ?_, .sl _ _ _ _ _ _ _ _ (by omega) ?_ ?_⟩
          · simp [Instr.sliceAt, Instr.slice, run_underlying ht, hb, run_sizeOf' hs]
            split <;> rfl
          · intro e he
            cases cap with
            | none => simp at he
            | some c0 => have := hcap c0 rfl; simp at he; omega
          · obtain ⟨v0, b, S, k1, k2, k3⟩ := h
            refine ⟨v0, b, S, k1, k2, fun e => ⟨fun hpos => ?_, ?_⟩⟩
            · rw [if_neg (by omega), (k3 e).1 (by omega), Addr.add_off]
            · have := (k3 e).2
              have e2 : l * e' + (cc - l) * e' = cc * e' := by rw [← Nat.add_mul]; congr 1; omega
              omega
      · cases hv
    · rename_i l hh m h1 h2
      split at hv
      · rename_i m' hm
        split at hv
        · rename_i hle
          obtain ⟨rfl, hlh, hhm, hml⟩ := hle
          cases hv
          cases cmx with
          | none => exact absurd hmx (by simp [BO])
          | some cm =>
            cases hi with
            | none => simp at hm
            | some hi' =>
              simp only [Option.isSome_some, if_true] at hm
              cases chi with
              | none => exact absurd hhi (by simp [BO])
              | some chi' =>
                have hb := bounds_run3 (P := P) (cap := cc) (hi := some hi') hlo hhi (mx := m) hmx h1 h2 rfl hm hlh hhm (by omega)
                refine ⟨.slice (some (if m' = l then a else a.add (l * e'))) (hh - l) (m' - l), ?_, .sl _ _ _ _ _ _ _ _ (by omega) ?_ ?_⟩
                · simp [Instr.sliceAt, Instr.slice, run_underlying ht, hb, run_sizeOf' hs]
                  split <;> rfl
                · intro e he; simpa using he
                · obtain ⟨v0, b, S, k1, k2, k3⟩ := h
                  refine ⟨v0, b, S, k1, k2, fun e => ⟨fun hpos => ?_, ?_⟩⟩
                  · rw [if_neg (by omega), (k3 e).1 (by omega), Addr.add_off]
                  · have := (k3 e).2
                    have e2 : l * e' + (m' - l) * e' = m' * e' := by rw [← Nat.add_mul]; congr 1; omega
                    have e3 : m' * e' ≤ cc * e' := Nat.mul_le_mul_right _ (by omega)
                    omega
        · cases hv
      · cases hv
    · cases hv
  | _ => simp [sliceA] at hv

/-! Appends. -/
theorem VL.getD {l : Nat} {vs : List AV} {cs : List Value} (h : VL W0 G l vs cs) : ∀ j u, cs[j]? = some u → cs.getD j Go.undef = u := by
  intro j u hu; simp [List.getD_eq_getElem?_getD, hu]

theorem src_of (hR : Rel W0 G H w) {u e' : TypeId} (hu : P.underlying u = some (.slice e')) {y : AV} {c : Value} (hy : VR W0 G 0 y c) {esz n : Nat} {ys : List AV} (hn : lenA y = some n) (hc : content H esz y = some ys) (h1 : ys.all one = true) :
    ∃ us, Src P esz u c n us w ∧ VL W0 G 0 ys us := by
  obtain ⟨A, cc, us, rfl, hcc, hlen, hvl, h0, hcell⟩ := content_spec hR hy hn hc
  have hul : us.length = n * esz := by rw [← hvl.1]; exact hlen
  refine ⟨us, ?_, hvl⟩
  cases A with
  | none =>
    have hn0 := h0 rfl
    subst hn0
    have : us = [] := List.eq_nil_of_length_eq_zero (by omega)
    subst this
    exact Src.ofNil w hu cc
  | some a => exact Src.ofSlice w hu a n cc us hul (fun j v hj => by
      have hlt : j < us.length := by
        rcases Nat.lt_or_ge j us.length with h | h
        · exact h
        · rw [List.getElem?_eq_none h] at hj; cases hj
      rw [hcell a rfl j (by omega)]
      simp [List.getD_eq_getElem?_getD, hj]) (all_one hvl h1)

theorem zeroCells_length (z : Array Value) (n : Nat) : (Builtin.zeroCells z n).size = n * z.size := by simp [Builtin.zeroCells]

/-- An append that makes a new row. -/
theorem grow_spec (hR : Rel W0 G H w) {t u e e' ty : TypeId} {i : TypeInfo} {z : Value} (ht : P.underlying t = some (.slice e)) (hu : P.underlying u = some (.slice e')) (hi : P.info? e = some i) (hz : i.zero = some z) (hzs : z.cells.size = i.size)
    {base : Option Addr} {m cap n : Nat} {xs ys : List AV} {us olds : List Value} {c : Value} (hs : Src P i.size u c n us w) (hys : VL W0 G 0 ys us) (hxs : VL W0 G 0 xs olds)
    (hold : (Builtin.firstCells i.size m (.slice base m cap)).run P w.drew = .ok olds.toArray w.drew) (hol : olds.length = m * i.size) (hg : cap < m + n) (hb : (m + n) * i.bytes ≤ 140737488355328) (h63 : m + n ≤ 9223372036854775807) :
    ∃ v G' w', (Builtin.append_ #[t, u] ty #[.slice base m cap, c]).run P w = .ok v w' ∧ VR W0 G' 0 (.sl H.length 0 i.size 0 (m + n) none) v ∧ Rel W0 G' (H ++ [⟨0, xs ++ ys⟩]) w' ∧ Ext G H w G' w' ∧ Gr G' H (H ++ [⟨0, xs ++ ys⟩]) := by
  have hcut := run_append_grow_src w t u ty e i z ht hi hz base m cap olds hold c n us hs hg (by omega) (growslice_fits hg hb)
  have hcap : m + n ≤ grownCap w (m + n) cap e := cap_le _ _ _ _
  have hal := (hR.drew).alloc (cells := xs ++ ys) (cs := olds ++ us) (Builtin.zeroCells z.cells (grownCap w (m + n) cap e - (m + n))).toList e (hxs.append hys)
  have harr : ((olds ++ us).toArray ++ Builtin.zeroCells z.cells (grownCap w (m + n) cap e - (m + n))) = ((olds ++ us) ++ (Builtin.zeroCells z.cells (grownCap w (m + n) cap e - (m + n))).toList).toArray := by
    apply Array.ext'; simp
  rw [harr] at hcut
  refine ⟨_, _, _, hcut, ?_, hal.1, (Ext.drew G H w).trans (Nat.le_refl _) hal.2, Gr.alloc _ _ _ _ _⟩
  refine .sl _ _ _ _ _ _ _ _ hcap (fun e h => by cases h) ⟨0, _, _, by simp [Gh.add]; rfl, Nat.le_refl _, fun _ => ⟨fun _ => rfl, ?_⟩⟩
  have hyl : us.length = n * i.size := hs.newsLen
  simp only [List.length_append, Array.length_toList, zeroCells_length, hzs, hol, hyl]
  rw [← Nat.add_mul, ← Nat.add_mul]
  exact Nat.le_of_eq (by rw [Nat.zero_add]; congr 1; omega)

theorem appA_spec (hR : Rel W0 G H w) {t u e e' ty : TypeId} {i : TypeInfo} {z : Value} (ht : P.underlying t = some (.slice e)) (hu : P.underlying u = some (.slice e')) (hi : P.info? e = some i) (hz : i.zero = some z) (hzs : z.cells.size = i.size) (hpos : i.size ≠ 0)
    {x y v : AV} {c d : Value} {H' : Heap} (hx : VR W0 G 0 x c) (hy : VR W0 G 0 y d) (hv : appA H i.size i.bytes x y = some (v, H')) :
    ∃ r G' w', (Builtin.append_ #[t, u] ty #[c, d]).run P w = .ok r w' ∧ VR W0 G' 0 v r ∧ Rel W0 G' H' w' ∧ Ext G H w G' w' ∧ Gr G' H H' := by
  unfold appA at hv
  split at hv
  · rename_i m n ys hm hn hc
    split at hv
    · rename_i h0
      subst h0
      cases hv
      obtain ⟨A, cc, rfl, hcc⟩ := lenA_spec hx hm
      obtain ⟨Ay, cy, us, rfl, hcy, hlen, hvl, hA0, hcell⟩ := content_spec hR hy hn hc
      refine ⟨.slice A m cc, G, w, ?_, hx, hR, Ext.refl G H w, Gr.same rfl⟩
      have hul : us = [] := List.eq_nil_of_length_eq_zero (by have := hvl.1; simp at hlen; simp_all)
      have hs : Src P i.size u (.slice Ay 0 cy) 0 [] w := by
        cases Ay with
        | none => exact Src.ofNil w hu cy
        | some a => exact Src.ofSlice w hu a 0 cy [] (by simp) (fun j v hj => by simp at hj) (fun v hv => by cases hv)
      cases A with
      | none =>
        simp [Builtin.append_, run_underlying ht, run_underlying hu, sizeOf, typeInfo, hi, hs.len, hs.cells, hcc]
      | some a =>
        simp [Builtin.append_, run_underlying ht, run_underlying hu, sizeOf, typeInfo, hi, hs.len, hs.cells, hcc, storeCells]
    · rename_i hn0
      split at hv
      · rename_i hb
        obtain ⟨hb1, hb2, hone⟩ := hb
        obtain ⟨us, hs, hvl⟩ := src_of (P := P) hR hu hy hn hc hone
        cases hx with
        | nils =>
          simp [lenA] at hm; subst hm
          cases hv
          obtain ⟨r, G', w', q1, q2, q3, q4, q5⟩ := grow_spec (ty := ty) hR ht hu hi hz hzs (base := none) (m := 0) (cap := 0) (xs := []) (olds := []) hs hvl VL.nil (by simp [Builtin.firstCells]) (by simp) (by omega) (by simpa using hb1) (by simpa using hb2)
          exact ⟨r, G', w', q1, by simpa using q2, by simpa using q3, q4, by simpa using q5⟩
        | sl id ver e1 off len cap a cc hcc hcap hob =>
          simp [lenA] at hm; subst hm
          cases cap with
          | none =>
            simp only at hv
            split at hv
            · rename_i o ho
              split at hv
              · rename_i hq
                obtain ⟨hq1, rfl, rfl, hq4⟩ := hq
                cases hv
                obtain ⟨v0, b, S, k1, k2, k3⟩ := hob
                obtain ⟨o', cs, cr, ty', m1, m2, m3, m4, m5, m6⟩ := hR.obj _ _ _ _ k1
                rw [ho] at m1; cases m1
                have hver : ver = v0 := by omega
                subst hver
                obtain ⟨ha, hS⟩ := k3 rfl
                have hlen := m6.1
                by_cases hroom : len + n ≤ cc
                · have hcpos : 0 < cc := by omega
                  obtain rfl := ha hcpos
                  have hcc' : (len + n) * i.size ≤ S := by
                    have : (len + n) * i.size ≤ cc * i.size := Nat.mul_le_mul_right _ hroom
                    omega
                  have hul := hs.newsLen
                  rw [Nat.add_mul] at hcc'
                  have hrun := run_append_room_src (P := P) w t u ty e i ht hi b 0 len cc d n us hs hroom (fun j hj => by
                      have : len * i.size + j < cs.length + cr.length := by omega
                      simp [World.cell?, m4, this]) (fun j hj => by simp [World.frozen?, m4])
                  simp only [Nat.zero_add] at hrun
                  have hheap := setCells_heap b us (len * i.size) w _ _ _ m4
                  have hput : putAll (cs ++ cr) (len * i.size) us = (cs ++ us) ++ cr.drop us.length := by
                    rw [hq4, hlen]; exact putAll_end us cs cr (by omega)
                  have hch := hR.change (id := id) (v' := ver + 1) (cells := o.cells ++ ys) (cs := cs ++ us) (cr := cr.drop us.length) (t := ty') (w' := w.setCells b (len * i.size) us) k1 (by omega)
                    (by rw [hheap]; congr 2; rw [List.toList_toArray, hput]) (by simp; omega) (m6.append hvl) (fun k hk => setCells_other b _ _ w k hk) (setCells_size b _ _ w) (setCells_below b m3 _ _ w hR.below)
                  refine ⟨_, _, _, hrun, .sl _ _ _ _ _ _ _ _ hroom (fun e h => by cases h) ⟨ver + 1, b, S, by simp [Gh.ver], Nat.le_refl _, fun _ => ⟨fun _ => rfl, ?_⟩⟩, hch.1, hch.2, Gr.same (by simp)⟩
                  simpa using hS
                · have hold : (Builtin.firstCells i.size len (.slice (some a) len cc)).run P w.drew = .ok cs.toArray w.drew := by
                    refine run_firstCells_some w.drew i.size len a len cc cs (by omega) (fun j v hj => ?_)
                    have hlt : j < cs.length := by
                      rcases Nat.lt_or_ge j cs.length with h | h
                      · exact h
                      · rw [List.getElem?_eq_none h] at hj; cases hj
                    have hl0 : 0 < len := by
                      rcases Nat.eq_zero_or_pos len with h | h
                      · subst h; simp at hq4; omega
                      · exact h
                    rw [ha (by omega), Addr.add_off]
                    show w.cell? _ = _
                    simp only [World.cell?, m4, Option.isSome_none, Bool.false_eq_true, if_false, Nat.zero_add]
                    simp [List.getElem?_append, hlt] at hj ⊢
                    exact hj
                  have hcut := run_append_grow_src w t u ty e i z ht hi hz (some a) len cc cs hold d n us hs (by omega) (by omega) (growslice_fits (by omega) hb1)
                  have hcap' : len + n ≤ grownCap w (len + n) cc e := cap_le _ _ _ _
                  have harr : ((cs ++ us).toArray ++ Builtin.zeroCells z.cells (grownCap w (len + n) cc e - (len + n))) = ((cs ++ us) ++ (Builtin.zeroCells z.cells (grownCap w (len + n) cc e - (len + n))).toList).toArray := by
                    apply Array.ext'; simp
                  rw [harr] at hcut
                  have hmv := (hR.drew).move (v' := ver + 1) k1 (cells := o.cells ++ ys) (cs := cs ++ us) (Builtin.zeroCells z.cells (grownCap w (len + n) cc e - (len + n))).toList e (by omega) (m6.append hvl)
                  refine ⟨_, _, _, hcut, .sl _ _ _ _ _ _ _ _ hcap' (fun e h => by cases h) ⟨ver + 1, _, _, by simp [Gh.ver]; rfl, Nat.le_refl _, fun _ => ⟨fun _ => rfl, ?_⟩⟩, hmv.1, (Ext.drew G H w).trans (Nat.le_refl _) hmv.2, Gr.same (by simp)⟩
                  have hyl : us.length = n * i.size := hs.newsLen
                  have hcl : cs.length = len * i.size := by omega
                  simp only [List.length_append, Array.length_toList, zeroCells_length, hzs, hcl, hyl]
                  rw [← Nat.add_mul, ← Nat.add_mul]
                  exact Nat.le_of_eq (by rw [Nat.zero_add]; congr 1; omega)
              · cases hv
            · cases hv
          | some c0 =>
            simp only at hv
            split at hv
            · rename_i hlt
              split at hv
              · rename_i xs hxc
                cases hv
                have hcc0 := hcap c0 rfl
                obtain ⟨A, cc', olds, q0, hcy, hlen, hvo, hA0, hcell⟩ := content_spec hR (.sl id ver e1 off len (some c0) a cc hcc hcap hob) (n := len) (by simp [lenA]) hxc
                cases q0
                have hol : olds.length = len * i.size := by rw [← hvo.1]; exact hlen
                obtain ⟨r, G', w', q1, q2, q3, q4, q5⟩ := grow_spec (ty := ty) hR ht hu hi hz hzs (base := some a) (m := len) (cap := cc) (xs := xs) (olds := olds) hs hvl hvo
                  (run_firstCells_some w.drew i.size len a len cc olds hol (fun j v hj => by
                    have hlt' : j < olds.length := by
                      rcases Nat.lt_or_ge j olds.length with h | h
                      · exact h
                      · rw [List.getElem?_eq_none h] at hj; cases hj
                    rw [World.cell?_drew, hcell a rfl j (by omega)]
                    simp [List.getD_eq_getElem?_getD, hj])) hol (by omega) hb1 hb2
                exact ⟨r, G', w', q1, q2, q3, q4, q5⟩
              · cases hv
            · cases hv
        | _ => first | (simp [lenA] at hm; done) | (simp at hv; done)
      · cases hv
  · cases hv
end
end Go.X
