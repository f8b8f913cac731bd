import Derived.Test.YtppekkocioidkaaX3
import Derived.Deep.AppendSrc
/-! Cuts, appends, numbers. -/
set_option linter.unusedSimpArgs false
set_option linter.unusedVariables false
set_option linter.unusedSectionVars false
namespace Go.X
open Go Go.RowKit

section
variable {P : Program} {W0 : World} [GlobOk W0] {G : Gh} {H : Heap} {w : World}

theorem sliceBound_run {k : IntKind} {z : Int} {y : Nat} {code : BoundsCode} (h0 : 0 ≤ z) (h : z.toNat ≤ y) (w : World) : (Instr.sliceBound (.int k z) y code).run P w = .ok z.toNat w := by
  have : z ≤ (y : Int) := by omega
  simp [Instr.sliceBound, asIntOf, h0, this]

/-- An optional bound. -/
def BO (G : Gh) (W0 : World) (o : Option AV) (c : Option Value) : Prop :=
  match o, c with
  | none, none => True
  | some v, some u => VR W0 G 0 v u
  | _, _ => False

theorem bo_of {fr : List AV} {a : Act} (hF : FR W0 G fr a.tmps) (o : Option Operand) : BO G W0 ((o.map opdA).map (·.ev fr)) (o.map a.eval) := by
  cases o with
  | none => trivial
  | some x => exact hF.ev x

theorem optNat_spec {o : Option AV} {c : Option Value} (h : BO G W0 o c) {d n : Nat} (hn : optNat o d = some n) : (c = none ∧ n = d) ∨ (∃ k z, c = some (.int k z) ∧ 0 ≤ z ∧ z.toNat = n) := by
  cases o with
  | none => cases c with
    | none => simp [optNat] at hn; exact .inl ⟨rfl, hn.symm⟩
    | some u => exact absurd h (by simp [BO])
  | some v => cases c with
    | none => exact absurd h (by simp [BO])
    | some u =>
      obtain ⟨k, z, rfl, h0, hz⟩ := natOf_spec h hn
      exact .inr ⟨k, z, rfl, h0, hz⟩

/-- The bounds of a cut without a third index. -/
theorem bounds_run {len cap l h : Nat} {lo hi : Option AV} {clo chi : Option Value} (hlo : BO G W0 lo clo) (hhi : BO G W0 hi chi) (hl : optNat lo 0 = some l) (hh : optNat hi len = some h) (hlh : l ≤ h) (hhc : h ≤ cap) (w : World) :
    (Instr.sliceBounds true len cap clo chi none).run P w = .ok (l, h, cap) w := by
  rcases optNat_spec hlo hl with ⟨rfl, rfl⟩ | ⟨k, z, rfl, h0, hz⟩ <;> rcases optNat_spec hhi hh with ⟨rfl, rfl⟩ | ⟨k', z', rfl, h0', hz'⟩
  · simp [Instr.sliceBounds]
  · simp [Instr.sliceBounds, sliceBound_run h0' (show z'.toNat ≤ cap by omega), hz']
  · simp [Instr.sliceBounds, sliceBound_run h0 (show z.toNat ≤ h by omega), hz]
  · simp [Instr.sliceBounds, sliceBound_run h0' (show z'.toNat ≤ cap by omega), hz', sliceBound_run h0 (show z.toNat ≤ h by omega), hz]

theorem bounds_run3 {len cap l h m : Nat} {lo hi : Option AV} {mx : AV} {clo : Option Value} {chi : Value} {cmx : Value} (hlo : BO G W0 lo clo) (hhi : VR W0 G 0 (hi.getD .undef) chi) (hmx : VR W0 G 0 mx cmx) (hl : optNat lo 0 = some l) (hh : optNat hi len = some h) (hhi' : hi.isSome = true) (hm : natOf mx = some m)
    (hlh : l ≤ h) (hhc : h ≤ m) (hmc : m ≤ cap) (w : World) :
    (Instr.sliceBounds true len cap clo (some chi) (some cmx)).run P w = .ok (l, h, m) w := by
  obtain ⟨km, zm, rfl, m0, hzm⟩ := natOf_spec hmx hm
  cases hi with
  | none => simp at hhi'
  | some hv =>
    obtain ⟨k', z', rfl, h0', hz'⟩ := natOf_spec (i := hv) hhi hh
    rcases optNat_spec hlo hl with ⟨rfl, rfl⟩ | ⟨k, z, rfl, h0, hz⟩
    · simp [Instr.sliceBounds, sliceBound_run m0 (show zm.toNat ≤ cap by omega), hzm, sliceBound_run h0' (show z'.toNat ≤ m by omega), hz']
    · simp [Instr.sliceBounds, sliceBound_run m0 (show zm.toNat ≤ cap by omega), hzm, sliceBound_run h0' (show z'.toNat ≤ m by omega), hz', sliceBound_run h0 (show z.toNat ≤ h by omega), hz]

theorem sliceA_spec {t e : TypeId} {esz : Nat} (ht : P.underlying t = some (.slice e)) (hs : sizeA P e = some esz) {x v : AV} {c : Value} {lo hi mx : Option AV} {clo chi cmx : Option Value} (hx : VR W0 G 0 x c)
    (hlo : BO G W0 lo clo) (hhi : BO G W0 hi chi) (hmx : BO G W0 mx cmx) (hv : sliceA esz x lo hi mx = some v) : ∃ u, (Instr.sliceAt t c clo chi cmx).run P w = .ok u w ∧ VR W0 G 0 v u := by
  cases hx with
  | nils =>
    simp only [sliceA] at hv
    split at hv
    · rename_i h1 h2
      cases hv
      cases cmx with
      | some _ => exact absurd hmx (by simp [BO])
      | none =>
        refine ⟨.slice none 0 0, ?_, .nils⟩
        simp [Instr.sliceAt, Instr.slice, run_underlying ht, bounds_run hlo hhi h1 h2 (Nat.le_refl _) (Nat.le_refl 0), run_sizeOf' hs]
    · cases hv
  | imm sn cells len A cc uu hl hc h h0 r =>
    simp only [sliceA] at hv
    split at hv
    · rename_i l hh h1 h2
      split at hv
      · rename_i hle
        obtain ⟨hlh, hhl⟩ := hle
        cases hv
        cases cmx with
        | some _ => exact absurd hmx (by simp [BO])
        | none =>
          have hb := bounds_run (P := P) (cap := cc) hlo hhi h1 h2 hlh (by omega)
          refine ⟨.slice (if cc = l then A else A.map (·.add (l * esz))) (hh - l) (cc - l), ?_, ?_⟩
          · simp [Instr.sliceAt, Instr.slice, run_underlying ht, hb, run_sizeOf' hs]
          · by_cases e : cc = l
            · have e0 : hh - l = 0 := by omega
              rw [if_pos e, e0]
              exact .imm sn _ 0 A _ uu (by omega) (Nat.zero_le _) (fun a ha j hj => by simp at hj) (fun ea => ⟨rfl, by simp⟩) (fun j hj => by simp at hj)
            · rw [if_neg e]
              refine .imm sn _ _ _ _ (fun q => uu (l * esz + q)) (by omega) (by omega) (fun a ha j hj => ?_) (fun ea => ?_) (fun j hj => ?_)
              · cases A with
                | none => simp at ha
                | some a0 =>
                  simp at ha; subst ha
                  rw [Addr.add_add]
                  exact h a0 rfl _ (by simp at hj; omega)
              · cases A with
                | none =>
                  obtain ⟨q1, q2⟩ := h0 rfl
                  subst q2
                  exact ⟨by omega, by simp⟩
                | some a0 => simp at ea
              · have hj' : j < (hh - l) * esz := by simp at hj; omega
                have := r (l * esz + j) (by simp at hj; omega)
                simpa [List.getD_eq_getElem?_getD, List.getElem?_drop, List.getElem?_take, hj'] using this
      · cases hv
    · cases hv
  | sl id ver e' off len cap a cc hc hcap h =>
    simp only [sliceA] at hv
    split at hv
    · rename_i l hh h1 h2
      split at hv
      · rename_i hle
        obtain ⟨rfl, hlh, hhl⟩ := hle
        cases hv
        cases cmx with
        | some _ => exact absurd hmx (by simp [BO])
        | none =>
          have hb := bounds_run (P := P) (cap := cc) hlo hhi h1 h2 hlh (by omega)
          refine ⟨.slice (some (if cc = l then a else a.add (l * e'))) (hh - l) (cc - l), ?_, .sl _ _ _ _ _ _ _ _ (by omega) ?_ ?_⟩
          · simp [Instr.sliceAt, Instr.slice, run_underlying ht, hb, run_sizeOf' hs]
            split <;> rfl
          · intro e he
            cases cap with
            | none => simp at he
            | some c0 => have := hcap c0 rfl; simp at he; omega
          · obtain ⟨v0, b, S, k1, k2, k3⟩ := h
            refine ⟨v0, b, S, k1, k2, fun e => ⟨fun hpos => ?_, ?_⟩⟩
            · rw [if_neg (by omega), (k3 e).1 (by omega), Addr.add_off]
            · have := (k3 e).2
              have e2 : l * e' + (cc - l) * e' = cc * e' := by rw [← Nat.add_mul]; congr 1; omega
              omega
      · cases hv
    · rename_i l hh m h1 h2
      split at hv
      · rename_i m' hm
        split at hv
        · rename_i hle
          obtain ⟨rfl, hlh, hhm, hml⟩ := hle
          cases hv
          cases cmx with
          | none => exact absurd hmx (by simp [BO])
          | some cm =>
            cases hi with
            | none => simp at hm
            | some hi' =>
              simp only [Option.isSome_some, if_true] at hm
              cases chi with
              | none => exact absurd hhi (by simp [BO])
              | some chi' =>
                have hb := bounds_run3 (P := P) (cap := cc) (hi := some hi') hlo hhi (mx := m) hmx h1 h2 rfl hm hlh hhm (by omega)
                refine ⟨.slice (some (if m' = l then a else a.add (l * e'))) (hh - l) (m' - l), ?_, .sl _ _ _ _ _ _ _ _ (by omega) ?_ ?_⟩
                · simp [Instr.sliceAt, Instr.slice, run_underlying ht, hb, run_sizeOf' hs]
                  split <;> rfl
                · intro e he; simpa using he
                · obtain ⟨v0, b, S, k1, k2, k3⟩ := h
                  refine ⟨v0, b, S, k1, k2, fun e => ⟨fun hpos => ?_, ?_⟩⟩
                  · rw [if_neg (by omega), (k3 e).1 (by omega), Addr.add_off]
                  · have := (k3 e).2
                    have e2 : l * e' + (m' - l) * e' = m' * e' := by rw [← Nat.add_mul]; congr 1; omega
                    have e3 : m' * e' ≤ cc * e' := Nat.mul_le_mul_right _ (by omega)
                    omega
        · cases hv
      · cases hv
    · cases hv
  | _ => simp [sliceA] at hv

/-! Appends. -/
theorem VL.getD {l : Nat} {vs : List AV} {cs : List Value} (h : VL W0 G l vs cs) : ∀ j u, cs[j]? = some u → cs.getD j Go.undef = u := by
  intro j u hu; simp [List.getD_eq_getElem?_getD, hu]

theorem src_of (hR : Rel W0 G H w) {u e' : TypeId} (hu : P.underlying u = some (.slice e')) {y : AV} {c : Value} (hy : VR W0 G 0 y c) {esz n : Nat} {ys : List AV} (hn : lenA y = some n) (hc : content H esz y = some ys) (h1 : ys.all one = true) :
    ∃ us, Src P esz u c n us w ∧ VL W0 G 0 ys us := by
  obtain ⟨A, cc, us, rfl, hcc, hlen, hvl, h0, hcell⟩ := content_spec hR hy hn hc
  have hul : us.length = n * esz := by rw [← hvl.1]; exact hlen
  refine ⟨us, ?_, hvl⟩
  cases A with
  | none =>
    have hn0 := h0 rfl
    subst hn0
    have : us = [] := List.eq_nil_of_length_eq_zero (by omega)
    subst this
    exact Src.ofNil w hu cc
  | some a => exact Src.ofSlice w hu a n cc us hul (fun j v hj => by
      have hlt : j < us.length := by
        rcases Nat.lt_or_ge j us.length with h | h
        · exact h
        · rw [List.getElem?_eq_none h] at hj; cases hj
      rw [hcell a rfl j (by omega)]
      simp [List.getD_eq_getElem?_getD, hj]) (all_one hvl h1)

theorem zeroCells_length (z : Array Value) (n : Nat) : (Builtin.zeroCells z n).size = n * z.size := by simp [Builtin.zeroCells]

/-- An append that makes a new row. -/
theorem grow_spec (hR : Rel W0 G H w) {t u e e' ty : TypeId} {i : TypeInfo} {z : Value} (ht : P.underlying t = some (.slice e)) (hu : P.underlying u = some (.slice e')) (hi : P.info? e = some i) (hz : i.zero = some z) (hzs : z.cells.size = i.size)
    {base : Option Addr} {m cap n : Nat} {xs ys : List AV} {us olds : List Value} {c : Value} (hs : Src P i.size u c n us w) (hys : VL W0 G 0 ys us) (hxs : VL W0 G 0 xs olds)
    (hold : (Builtin.firstCells i.size m (.slice base m cap)).run P w.drew = .ok olds.toArray w.drew) (hol : olds.length = m * i.size) (hg : cap < m + n) (hb : (m + n) * i.bytes ≤ 140737488355328) (h63 : m + n ≤ 9223372036854775807) :
    ∃ v G' w', (Builtin.append_ #[t, u] ty #[.slice base m cap, c]).run P w = .ok v w' ∧ VR W0 G' 0 (.sl H.length 0 i.size 0 (m + n) none) v ∧ Rel W0 G' (H ++ [⟨0, xs ++ ys⟩]) w' ∧ Ext G H w G' w' ∧ Gr G' H (H ++ [⟨0, xs ++ ys⟩]) := by
  have hcut := run_append_grow_src w t u ty e i z ht hi hz base m cap olds hold c n us hs hg (by omega) (growslice_fits hg hb)
  have hcap : m + n ≤ grownCap w (m + n) cap e := cap_le _ _ _ _
  have hal := (hR.drew).alloc (cells := xs ++ ys) (cs := olds ++ us) (Builtin.zeroCells z.cells (grownCap w (m + n) cap e - (m + n))).toList e (hxs.append hys)
  have harr : ((olds ++ us).toArray ++ Builtin.zeroCells z.cells (grownCap w (m + n) cap e - (m + n))) = ((olds ++ us) ++ (Builtin.zeroCells z.cells (grownCap w (m + n) cap e - (m + n))).toList).toArray := by
    apply Array.ext'; simp
  rw [harr] at hcut
  refine ⟨_, _, _, hcut, ?_, hal.1, (Ext.drew G H w).trans (Nat.le_refl _) hal.2, Gr.alloc _ _ _ _ _⟩
  refine .sl _ _ _ _ _ _ _ _ hcap (fun e h => by cases h) ⟨0, _, _, by simp [Gh.add]; rfl, Nat.le_refl _, fun _ => ⟨fun _ => rfl, ?_⟩⟩
  have hyl : us.length = n * i.size := hs.newsLen
  simp only [List.length_append, Array.length_toList, zeroCells_length, hzs, hol, hyl]
  rw [← Nat.add_mul, ← Nat.add_mul]
  exact Nat.le_of_eq (by rw [Nat.zero_add]; congr 1; omega)

theorem appA_spec (hR : Rel W0 G H w) {t u e e' ty : TypeId} {i : TypeInfo} {z : Value} (ht : P.underlying t = some (.slice e)) (hu : P.underlying u = some (.slice e')) (hi : P.info? e = some i) (hz : i.zero = some z) (hzs : z.cells.size = i.size) (hpos : i.size ≠ 0)
    {x y v : AV} {c d : Value} {H' : Heap} (hx : VR W0 G 0 x c) (hy : VR W0 G 0 y d) (hv : appA H i.size i.bytes x y = some (v, H')) :
    ∃ r G' w', (Builtin.append_ #[t, u] ty #[c, d]).run P w = .ok r w' ∧ VR W0 G' 0 v r ∧ Rel W0 G' H' w' ∧ Ext G H w G' w' ∧ Gr G' H H' := by
  unfold appA at hv
  split at hv
  · rename_i m n ys hm hn hc
    split at hv
    · rename_i h0
      subst h0
      cases hv
      obtain ⟨A, cc, rfl, hcc⟩ := lenA_spec hx hm
      obtain ⟨Ay, cy, us, rfl, hcy, hlen, hvl, hA0, hcell⟩ := content_spec hR hy hn hc
      refine ⟨.slice A m cc, G, w, ?_, hx, hR, Ext.refl G H w, Gr.same rfl⟩
      have hul : us = [] := List.eq_nil_of_length_eq_zero (by have := hvl.1; simp at hlen; simp_all)
      have hs : Src P i.size u (.slice Ay 0 cy) 0 [] w := by
        cases Ay with
        | none => exact Src.ofNil w hu cy
        | some a => exact Src.ofSlice w hu a 0 cy [] (by simp) (fun j v hj => by simp at hj) (fun v hv => by cases hv)
      cases A with
      | none =>
        simp [Builtin.append_, run_underlying ht, run_underlying hu, sizeOf, typeInfo, hi, hs.len, hs.cells, hcc]
      | some a =>
        simp [Builtin.append_, run_underlying ht, run_underlying hu, sizeOf, typeInfo, hi, hs.len, hs.cells, hcc, storeCells]
    · rename_i hn0
      split at hv
      · rename_i hb
        obtain ⟨hb1, hb2, hone⟩ := hb
        obtain ⟨us, hs, hvl⟩ := src_of (P := P) hR hu hy hn hc hone
        cases hx with
        | nils =>
          simp [lenA] at hm; subst hm
          cases hv
          obtain ⟨r, G', w', q1, q2, q3, q4, q5⟩ := grow_spec (ty := ty) hR ht hu hi hz hzs (base := none) (m := 0) (cap := 0) (xs := []) (olds := []) hs hvl VL.nil (by simp [Builtin.firstCells]) (by simp) (by omega) (by simpa using hb1) (by simpa using hb2)
          exact ⟨r, G', w', q1, by simpa using q2, by simpa using q3, q4, by simpa using q5⟩
        | sl id ver e1 off len cap a cc hcc hcap hob =>
          simp [lenA] at hm; subst hm
          cases cap with
          | none =>
            simp only at hv
            split at hv
            · rename_i o ho
              split at hv
              · rename_i hq
                obtain ⟨hq1, rfl, rfl, hq4⟩ := hq
                cases hv
                obtain ⟨v0, b, S, k1, k2, k3⟩ := hob
                obtain ⟨o', cs, cr, ty', m1, m2, m3, m4, m5, m6⟩ := hR.obj _ _ _ _ k1
                rw [ho] at m1; cases m1
                have hver : ver = v0 := by omega
                subst hver
                obtain ⟨ha, hS⟩ := k3 rfl
                have hlen := m6.1
                by_cases hroom : len + n ≤ cc
                · have hcpos : 0 < cc := by omega
                  obtain rfl := ha hcpos
                  have hcc' : (len + n) * i.size ≤ S := by
                    have : (len + n) * i.size ≤ cc * i.size := Nat.mul_le_mul_right _ hroom
                    omega
                  have hul := hs.newsLen
                  rw [Nat.add_mul] at hcc'
                  have hrun := run_append_room_src (P := P) w t u ty e i ht hi b 0 len cc d n us hs hroom (fun j hj => by
                      have : len * i.size + j < cs.length + cr.length := by omega
                      simp [World.cell?, m4, this]) (fun j hj => by simp [World.frozen?, m4])
                  simp only [Nat.zero_add] at hrun
                  have hheap := setCells_heap b us (len * i.size) w _ _ _ m4
                  have hput : putAll (cs ++ cr) (len * i.size) us = (cs ++ us) ++ cr.drop us.length := by
                    rw [hq4, hlen]; exact putAll_end us cs cr (by omega)
                  have hch := hR.change (id := id) (v' := ver + 1) (cells := o.cells ++ ys) (cs := cs ++ us) (cr := cr.drop us.length) (t := ty') (w' := w.setCells b (len * i.size) us) k1 (by omega)
                    (by rw [hheap]; congr 2; rw [List.toList_toArray, hput]) (by simp; omega) (m6.append hvl) (fun k hk => setCells_other b _ _ w k hk) (setCells_size b _ _ w) (setCells_below b m3 _ _ w hR.below)
                  refine ⟨_, _, _, hrun, .sl _ _ _ _ _ _ _ _ hroom (fun e h => by cases h) ⟨ver + 1, b, S, by simp [Gh.ver], Nat.le_refl _, fun _ => ⟨fun _ => rfl, ?_⟩⟩, hch.1, hch.2, Gr.same (by simp)⟩
                  simpa using hS
                · have hold : (Builtin.firstCells i.size len (.slice (some a) len cc)).run P w.drew = .ok cs.toArray w.drew := by
                    refine run_firstCells_some w.drew i.size len a len cc cs (by omega) (fun j v hj => ?_)
                    have hlt : j < cs.length := by
                      rcases Nat.lt_or_ge j cs.length with h | h
                      · exact h
                      · rw [List.getElem?_eq_none h] at hj; cases hj
                    have hl0 : 0 < len := by
                      rcases Nat.eq_zero_or_pos len with h | h
                      · subst h; simp at hq4; omega
                      · exact h
                    rw [ha (by omega), Addr.add_off]
                    show w.cell? _ = _
                    simp only [World.cell?, m4, Option.isSome_none, Bool.false_eq_true, if_false, Nat.zero_add]
                    simp [List.getElem?_append, hlt] at hj ⊢
                    exact hj
                  have hcut := run_append_grow_src w t u ty e i z ht hi hz (some a) len cc cs hold d n us hs (by omega) (by omega) (growslice_fits (by omega) hb1)
                  have hcap' : len + n ≤ grownCap w (len + n) cc e := cap_le _ _ _ _
                  have harr : ((cs ++ us).toArray ++ Builtin.zeroCells z.cells (grownCap w (len + n) cc e - (len + n))) = ((cs ++ us) ++ (Builtin.zeroCells z.cells (grownCap w (len + n) cc e - (len + n))).toList).toArray := by
                    apply Array.ext'; simp
                  rw [harr] at hcut
                  have hmv := (hR.drew).move (v' := ver + 1) k1 (cells := o.cells ++ ys) (cs := cs ++ us) (Builtin.zeroCells z.cells (grownCap w (len + n) cc e - (len + n))).toList e (by omega) (m6.append hvl)
                  refine ⟨_, _, _, hcut, .sl _ _ _ _ _ _ _ _ hcap' (fun e h => by cases h) ⟨ver + 1, _, _, by simp [Gh.ver]; rfl, Nat.le_refl _, fun _ => ⟨fun _ => rfl, ?_⟩⟩, hmv.1, (Ext.drew G H w).trans (Nat.le_refl _) hmv.2, Gr.same (by simp)⟩
                  have hyl : us.length = n * i.size := hs.newsLen
                  have hcl : cs.length = len * i.size := by omega
                  simp only [List.length_append, Array.length_toList, zeroCells_length, hzs, hcl, hyl]
                  rw [← Nat.add_mul, ← Nat.add_mul]
                  exact Nat.le_of_eq (by rw [Nat.zero_add]; congr 1; omega)
              · cases hv
            · cases hv
          | some c0 =>
            simp only at hv
            split at hv
            · rename_i hlt
              split at hv
              · rename_i xs hxc
                cases hv
                have hcc0 := hcap c0 rfl
                obtain ⟨A, cc', olds, q0, hcy, hlen, hvo, hA0, hcell⟩ := content_spec hR (.sl id ver e1 off len (some c0) a cc hcc hcap hob) (n := len) (by simp [lenA]) hxc
                cases q0
                have hol : olds.length = len * i.size := by rw [← hvo.1]; exact hlen
                obtain ⟨r, G', w', q1, q2, q3, q4, q5⟩ := grow_spec (ty := ty) hR ht hu hi hz hzs (base := some a) (m := len) (cap := cc) (xs := xs) (olds := olds) hs hvl hvo
                  (run_firstCells_some w.drew i.size len a len cc olds hol (fun j v hj => by
                    have hlt' : j < olds.length := by
                      rcases Nat.lt_or_ge j olds.length with h | h
                      · exact h
                      · rw [List.getElem?_eq_none h] at hj; cases hj
                    rw [World.cell?_drew, hcell a rfl j (by omega)]
                    simp [List.getD_eq_getElem?_getD, hj])) hol (by omega) hb1 hb2
                exact ⟨r, G', w', q1, q2, q3, q4, q5⟩
              · cases hv
            · cases hv
        | _ => first | (simp [lenA] at hm; done) | (simp at hv; done)
      · cases hv
  · cases hv
end
end Go.X

/-! Calls that share no objects with their caller. -/
set_option linter.unusedSimpArgs false
set_option linter.unusedVariables false
set_option linter.unusedSectionVars false
namespace Go.X
open Go Go.RowKit

section
variable {P : Program} {W0 : World} [GlobOk W0] {G : Gh} {H : Heap} {w : World}

theorem mapM_spec {G' : Gh} {l m : Nat} {f : AV → Option AV} : ∀ {vs vs' : List AV} {cs : List Value}, vs.mapM f = some vs' → VL W0 G l vs cs → (∀ v v' c, f v = some v' → VR W0 G l v c → VR W0 G' m v' c) → VL W0 G' m vs' cs
  | [], vs', cs, h, hv, _ => by
    simp at h; subst h
    have : cs = [] := List.eq_nil_of_length_eq_zero (by simpa using hv.1.symm)
    subst this; exact VL.nil
  | v :: vs, vs', [], h, hv, _ => by simpa using hv.1
  | v :: vs, vs', c :: cs, h, hv, k => by
    simp only [List.mapM_cons, Option.bind_eq_bind, Option.pure_def] at h
    cases h1 : f v with
    | none => simp [h1] at h
    | some u =>
      cases h2 : vs.mapM f with
      | none => simp [h1, h2] at h
      | some us =>
        simp [h1, h2] at h; subst h
        exact VL.cons (k _ _ _ h1 hv.head.1) (mapM_spec h2 hv.head.2 k)

theorem mapM_length {α β : Type} {f : α → Option β} : ∀ {vs : List α} {vs' : List β}, vs.mapM f = some vs' → vs'.length = vs.length
  | [], vs', h => by simp at h; subst h; rfl
  | v :: vs, vs', h => by
    simp only [List.mapM_cons, Option.bind_eq_bind, Option.pure_def] at h
    cases h1 : f v with
    | none => simp [h1] at h
    | some u =>
      cases h2 : vs.mapM f with
      | none => simp [h1, h2] at h
      | some us => simp [h1, h2] at h; subst h; simp [mapM_length h2]

theorem mapM_get {α β : Type} {f : α → Option β} : ∀ {vs : List α} {vs' : List β}, vs.mapM f = some vs' → ∀ (i : Nat) (x : α), vs[i]? = some x → ∃ y, vs'[i]? = some y ∧ f x = some y
  | [], vs', h, i, x, hx => by simp at hx
  | v :: vs, vs', h, i, x, hx => by
    simp only [List.mapM_cons, Option.bind_eq_bind, Option.pure_def] at h
    cases h1 : f v with
    | none => simp [h1] at h
    | some u =>
      cases h2 : vs.mapM f with
      | none => simp [h1, h2] at h
      | some us =>
        simp [h1, h2] at h; subst h
        cases i with
        | zero => simp at hx; subst hx; exact ⟨u, rfl, h1⟩
        | succ i => simpa using mapM_get h2 i x (by simpa using hx)

/-- A row's cells, all of them behind what holds them: G' knows the row's block by C or D. -/
theorem row_spec (hR : Rel W0 G H w) {G' : Gh} (sn : Bool) {f : AV → Option AV} (hf : ∀ v v' c, f v = some v' → VR W0 G 0 v c → VR W0 G' (lv sn) v' c)
    (hblk : ∀ id v b S, G.ob id = some (v, b, S) → ∀ cs t, w.heap[b]? = some (.cells cs t (0, 0)) → ∃ s, (if sn then G'.D b = some s else G'.C b = some s) ∧ ∀ (j : Nat) (u : Value), cs[j]? = some u → s[j]? = some u)
    {id ver e off len : Nat} {cap : Option Nat} {c : Value} (hv : VR W0 G 0 (.sl id ver e off len cap) c) {o : Ob} (ho : H[id]? = some o) (hc : o.ver = ver ∧ off + len * e ≤ o.cells.length) {cs' : List AV}
    (hm : ((o.cells.drop off).take (len * e)).mapM f = some cs') : VR W0 G' (lv sn) (.imm sn cs' len) c := by
  cases hv with
  | sl _ _ _ _ _ _ a cc hcc hcap hob =>
    obtain ⟨v0, b, S, h1, h2, h3⟩ := hob
    obtain ⟨o', cs, cr, t, k1, k2, k3, k4, k5, k6⟩ := hR.obj _ _ _ _ h1
    rw [ho] at k1; cases k1
    obtain ⟨rfl, hle⟩ := hc
    obtain ⟨ha, hS⟩ := h3 k2
    have hcells := mapM_spec hm ((k6.drop off).take (len * e)) hf
    have hlen := mapM_length hm
    obtain ⟨s, hs1, hs2⟩ := hblk _ _ _ _ h1 _ _ k4
    have hcl := k6.1
    refine .imm sn cs' len (some a) cc (fun j => ((cs.drop off).take (len * e)).getD j Go.undef) (Nat.le_refl _) hcc (fun a' ha' j hj => ?_) (fun e => nomatch e) (fun j hj => hcells.2 j hj)
    cases ha'
    have hj' : j < len * e := by simp at hlen; omega
    have hl0 : 0 < len := by
      rcases Nat.eq_zero_or_pos len with h | h
      · subst h; simp at hj'
      · exact h
    rw [ha (by omega), Addr.add_off]
    have hlt : off + j < cs.length := by omega
    have hval : ((cs.drop off).take (len * e)).getD j Go.undef = cs[off + j] := by
      simp [List.getD_eq_getElem?_getD, List.getElem?_take, hj', List.getElem?_drop, hlt]
    have hs3 := hs2 (off + j) cs[off + j] (by simp [List.getElem?_append, hlt])
    refine .inr ⟨rfl, ?_⟩
    cases sn with
    | true => exact .inr ⟨rfl, s, hs1, by rw [hval]; exact hs3⟩
    | false => exact .inl ⟨s, hs1, by rw [hval]; exact hs3⟩

/-- The same for a place. -/
theorem place_spec (hR : Rel W0 G H w) {G' : Gh} (sn : Bool) {f : AV → Option AV} (hf : ∀ v v' c, f v = some v' → VR W0 G 0 v c → VR W0 G' (lv sn) v' c)
    (hblk : ∀ id v b S, G.ob id = some (v, b, S) → ∀ cs t, w.heap[b]? = some (.cells cs t (0, 0)) → ∃ s, (if sn then G'.D b = some s else G'.C b = some s) ∧ ∀ (j : Nat) (u : Value), cs[j]? = some u → s[j]? = some u)
    {id ver off : Nat} {c : Value} (hv : VR W0 G 0 (.ptr id ver off) c) {o : Ob} (ho : H[id]? = some o) (hc : o.ver = ver ∧ off ≤ o.cells.length) {cs' : List AV}
    (hm : (o.cells.drop off).mapM f = some cs') : VR W0 G' (lv sn) (.cptr sn cs') c := by
  cases hv with
  | ptr _ _ _ a hob =>
    obtain ⟨v0, b, S, h1, h2, h3⟩ := hob
    obtain ⟨o', cs, cr, t, k1, k2, k3, k4, k5, k6⟩ := hR.obj _ _ _ _ h1
    rw [ho] at k1; cases k1
    obtain ⟨rfl, hle⟩ := hc
    have ha := h3 k2
    have hcells := mapM_spec hm (k6.drop off) hf
    have hlen := mapM_length hm
    obtain ⟨s, hs1, hs2⟩ := hblk _ _ _ _ h1 _ _ k4
    have hcl := k6.1
    refine .cptr sn cs' a (fun j => (cs.drop off).getD j Go.undef) (Nat.le_refl _) (fun j hj => ?_) (fun j hj => hcells.2 j hj)
    rw [ha, Addr.add_off]
    have hlt : off + j < cs.length := by simp at hlen; omega
    have hval : (cs.drop off).getD j Go.undef = cs[off + j] := by
      simp [List.getD_eq_getElem?_getD, List.getElem?_drop, hlt]
    have hs3 := hs2 (off + j) cs[off + j] (by simp [List.getElem?_append, hlt])
    refine .inr ⟨rfl, ?_⟩
    cases sn with
    | true => exact .inr ⟨rfl, s, hs1, by rw [hval]; exact hs3⟩
    | false => exact .inl ⟨s, hs1, by rw [hval]; exact hs3⟩

theorem snapA_spec (hR : Rel W0 G H w) {G' : Gh} (hL : Le 1 G G')
    (hblk : ∀ id v b S, G.ob id = some (v, b, S) → ∀ cs t, w.heap[b]? = some (.cells cs t (0, 0)) → ∃ s, G'.D b = some s ∧ ∀ (j : Nat) (u : Value), cs[j]? = some u → s[j]? = some u) :
    ∀ (d : Nat) (v v' : AV) (c : Value), snapA H d v = some v' → VR W0 G 0 v c → VR W0 G' 1 v' c := by
  intro d
  induction d with
  | zero => intro v v' c h; simp [snapA] at h
  | succ d ih =>
    intro v v' c h hv
    unfold snapA at h
    split at h
    · cases h; exact .undef _
    · cases h; cases hv; exact .bool _
    · cases h; cases hv; exact .int _ _
    · cases h; cases hv; exact .nilp
    · cases h; cases hv; exact .nils
    · cases h; cases hv; exact .nilf
    · cases h; cases hv; exact .nili
    · rename_i sn cells len
      cases h
      cases hv with
      | imm _ _ _ A cc u hl hc h h0 r => exact (VR.imm sn cells len A cc u (l := 1) (by cases sn <;> simp [lv]) hc h h0 r).mono hL
    · rename_i f caps
      cases hm : caps.mapM (snapA H d) with
      | none => simp [hm] at h
      | some cs' =>
        simp [hm] at h; subst h
        cases hv with
        | fn _ _ cs hn r =>
          have := mapM_spec hm ⟨hn, r⟩ (fun v v' c => ih v v' c)
          exact .fn _ cs' cs this.1 this.2
    · rename_i sn cells
      cases h
      cases hv with
      | cptr _ _ a u hl h r => exact (VR.cptr sn cells a u (l := 1) (by cases sn <;> simp [lv]) h r).mono hL
    · rename_i id ver off
      split at h
      · rename_i o ho
        split at h
        · rename_i hc
          cases hm : (o.cells.drop off).mapM (snapA H d) with
          | none => simp [hm] at h
          | some cs' =>
            simp [hm] at h; subst h
            exact place_spec hR true (fun v v' c => ih v v' c) (fun id v b S hid cs t hb => by simpa using hblk id v b S hid cs t hb) hv ho hc hm
        · cases h
      · cases h
    · rename_i id ver e off len cap
      split at h
      · rename_i o ho
        split at h
        · rename_i hc
          cases hm : ((o.cells.drop off).take (len * e)).mapM (snapA H d) with
          | none => simp [hm] at h
          | some cs' =>
            simp [hm] at h; subst h
            exact row_spec hR true (fun v v' c => ih v v' c) (fun id v b S hid cs t hb => by simpa using hblk id v b S hid cs t hb) hv ho hc hm
        · cases h
      · cases h
    · rename_i cells
      cases hm : cells.mapM (snapA H d) with
      | none => simp [hm] at h
      | some cs' =>
        simp [hm] at h; subst h
        cases hv with
        | agg _ cs hn r => exact VR.aggA (mapM_spec hm ⟨hn, r⟩ (fun v v' c => ih v v' c))
    · rename_i cells
      cases hm : cells.mapM (snapA H d) with
      | none => simp [hm] at h
      | some cs' =>
        simp [hm] at h; subst h
        cases hv with
        | tup _ cs hn r => exact VR.tupA (mapM_spec hm ⟨hn, r⟩ (fun v v' c => ih v v' c))
    · rename_i t v
      cases hm : snapA H d v with
      | none => simp [hm] at h
      | some u =>
        simp [hm] at h; subst h
        cases hv with
        | iface _ _ c r => exact .iface _ _ _ (ih _ _ _ hm r)
    · cases h

theorem freeA_spec (hR : Rel W0 G H w) {G' : Gh} (hL : Le 2 G G')
    (hblk : ∀ id v b S, G.ob id = some (v, b, S) → ∀ cs t, w.heap[b]? = some (.cells cs t (0, 0)) → ∃ s, G'.C b = some s ∧ ∀ (j : Nat) (u : Value), cs[j]? = some u → s[j]? = some u) :
    ∀ (d : Nat) (v v' : AV) (c : Value), freeA H d v = some v' → VR W0 G 0 v c → VR W0 G' 2 v' c := by
  intro d
  induction d with
  | zero => intro v v' c h; simp [freeA] at h
  | succ d ih =>
    intro v v' c h hv
    unfold freeA at h
    split at h
    · cases h; exact .undef _
    · cases h; cases hv; exact .bool _
    · cases h; cases hv; exact .int _ _
    · cases h; cases hv; exact .nilp
    · cases h; cases hv; exact .nils
    · cases h; cases hv; exact .nilf
    · cases h; cases hv; exact .nili
    · rename_i cells len
      cases h
      cases hv with
      | imm _ _ _ A cc u hl hc h h0 r => exact (VR.imm false cells len A cc u (l := 2) (by simp [lv]) hc h h0 r).mono hL
    · cases h
      cases hv with
      | fn _ _ cs hn r => exact .fn _ [] cs hn (fun j hj => absurd hj (by simp))
    · rename_i id ver e off len cap
      split at h
      · rename_i o ho
        split at h
        · rename_i hc
          cases hm : ((o.cells.drop off).take (len * e)).mapM (freeA H d) with
          | none => simp [hm] at h
          | some cs' =>
            simp [hm] at h; subst h
            exact row_spec hR false (fun v v' c => ih v v' c) (fun id v b S hid cs t hb => by simpa using hblk id v b S hid cs t hb) hv ho hc hm
        · cases h
      · cases h
    · rename_i cells
      cases hm : cells.mapM (freeA H d) with
      | none => simp [hm] at h
      | some cs' =>
        simp [hm] at h; subst h
        cases hv with
        | agg _ cs hn r => exact VR.aggA (mapM_spec hm ⟨hn, r⟩ (fun v v' c => ih v v' c))
    · rename_i cells
      cases hm : cells.mapM (freeA H d) with
      | none => simp [hm] at h
      | some cs' =>
        simp [hm] at h; subst h
        cases hv with
        | tup _ cs hn r => exact VR.tupA (mapM_spec hm ⟨hn, r⟩ (fun v v' c => ih v v' c))
    · rename_i t v
      cases hm : freeA H d v with
      | none => simp [hm] at h
      | some u =>
        simp [hm] at h; subst h
        cases hv with
        | iface _ _ c r => exact .iface _ _ _ (ih _ _ _ hm r)
    · cases h

theorem shiftA_spec {G' : Gh} {n : Nat} (hL : Le 2 G G') (hob : ∀ id x, G.ob id = some x → G'.ob (id + n) = some x) :
    ∀ (d : Nat) (v v' : AV) (c : Value), shiftA n d v = some v' → VR W0 G 0 v c → VR W0 G' 0 v' c := by
  intro d
  induction d with
  | zero => intro v v' c h; simp [shiftA] at h
  | succ d ih =>
    intro v v' c h hv
    unfold shiftA at h
    split at h
    · cases h; exact .undef _
    · cases h; cases hv; exact .bool _
    · cases h; cases hv; exact .int _ _
    · cases h; cases hv; exact .nilp
    · cases h; cases hv; exact .nils
    · cases h; cases hv; exact .nilf
    · cases h; cases hv; exact .nili
    · rename_i cells len
      cases h
      cases hv with
      | imm _ _ _ A cc u hl hc h h0 r => exact ((VR.imm false cells len A cc u (l := 2) (by simp [lv]) hc h h0 r).mono hL).weaken (by omega)
    · cases h
      cases hv with
      | fn _ _ cs hn r => exact .fn _ [] cs hn (fun j hj => absurd hj (by simp))
    · rename_i id ver e off len cap
      cases h
      cases hv with
      | sl _ _ _ _ _ _ a cc hcc hcap h =>
        obtain ⟨v0, b, S, h1, h2, h3⟩ := h
        exact .sl _ _ _ _ _ _ a cc hcc hcap ⟨v0, b, S, hob _ _ h1, h2, h3⟩
    · rename_i id ver off
      cases h
      cases hv with
      | ptr _ _ _ a h =>
        obtain ⟨v0, b, S, h1, h2, h3⟩ := h
        exact .ptr _ _ _ a ⟨v0, b, S, hob _ _ h1, h2, h3⟩
    · rename_i cells
      cases hm : cells.mapM (shiftA n d) with
      | none => simp [hm] at h
      | some cs' =>
        simp [hm] at h; subst h
        cases hv with
        | agg _ cs hn r => exact VR.aggA (mapM_spec hm ⟨hn, r⟩ (fun v v' c => ih v v' c))
    · rename_i cells
      cases hm : cells.mapM (shiftA n d) with
      | none => simp [hm] at h
      | some cs' =>
        simp [hm] at h; subst h
        cases hv with
        | tup _ cs hn r => exact VR.tupA (mapM_spec hm ⟨hn, r⟩ (fun v v' c => ih v v' c))
    · rename_i t v
      cases hm : shiftA n d v with
      | none => simp [hm] at h
      | some u =>
        simp [hm] at h; subst h
        cases hv with
        | iface _ _ c r => exact .iface _ _ _ (ih _ _ _ hm r)
    · cases h

/-- What a block holds. -/
def held (w : World) (b : Nat) : Option (List Value) := match w.heap[b]? with
  | some (.cells c _ _) => some c.toList
  | _ => none

theorem held_of {b : Nat} {c : Array Value} {t : TypeId} {fr : Nat × Nat} (h : w.heap[b]? = some (.cells c t fr)) : held w b = some c.toList := by simp [held, h]

open Classical in
/-- The ghost of a call that shares nothing. -/
noncomputable def Gh.iso (G : Gh) (w : World) : Gh where
  ob := fun _ => none
  C := G.C
  D := fun b => if ∃ id v S, G.ob id = some (v, b, S) then held w b else G.D b

theorem Rel.iso (hR : Rel W0 G H w) : Rel W0 (G.iso w) [] w ∧ Le 1 G (G.iso w) ∧
    (∀ id v b S, G.ob id = some (v, b, S) → ∀ cs t, w.heap[b]? = some (.cells cs t (0, 0)) → ∃ s, (G.iso w).D b = some s ∧ ∀ (j : Nat) (u : Value), cs[j]? = some u → s[j]? = some u) := by
  refine ⟨⟨hR.below, fun id v b S h => (nomatch h), fun id v b S h => (nomatch h), fun _ _ _ _ _ _ _ h => (nomatch h), hR.C, fun b s h => ?_, fun id v b S h => nomatch h⟩, ⟨fun e => absurd e (by decide), fun _ b s h => ?_, fun _ _ h => h⟩, fun id v b S h cs t hb => ?_⟩
  · simp only [Gh.iso] at h
    split at h
    · rename_i hx
      obtain ⟨id, v, S, hx⟩ := hx
      obtain ⟨o, cs, cr, t, k1, k2, k3, k4, k5, k6⟩ := hR.obj _ _ _ _ hx
      rw [held_of k4] at h; cases h
      exact ⟨k3, _, _, _, k4, fun j u hu => by simpa using hu⟩
    · exact hR.D _ _ h
  · simp only [Gh.iso]
    rw [if_neg]
    · exact h
    · rintro ⟨id, v, S, hx⟩
      rw [(hR.ap _ _ _ _ hx).2] at h; cases h
  · refine ⟨cs.toList, ?_, fun j u hu => by simpa using hu⟩
    simp only [Gh.iso]
    rw [if_pos ⟨id, v, S, h⟩, held_of hb]

open Classical in
/-- Behind it: what it made does not change any more. -/
noncomputable def Gh.fix (G G' : Gh) (w' : World) : Gh where
  ob := G.ob
  C := fun b => if ∃ id v S, G'.ob id = some (v, b, S) then held w' b else G'.C b
  D := G.D

theorem Rel.fix (hR : Rel W0 G H w) {G' : Gh} {H' : Heap} {w' : World} (hR' : Rel W0 G' H' w') (hE : Ext (G.iso w) [] w G' w') :
    Rel W0 (G.fix G' w') H w' ∧ Ext G H w (G.fix G' w') w' ∧ Le 2 G' (G.fix G' w') ∧
    (∀ id v b S, G'.ob id = some (v, b, S) → ∀ cs t, w'.heap[b]? = some (.cells cs t (0, 0)) → ∃ s, (G.fix G' w').C b = some s ∧ ∀ (j : Nat) (u : Value), cs[j]? = some u → s[j]? = some u) := by
  have hnew : ∀ id v b S, G'.ob id = some (v, b, S) → w.heap.size ≤ b := fun id v b S h => (hE.new _ _ _ _ h rfl).2
  have hC2 : ∀ b s, G'.C b = some s → (G.fix G' w').C b = some s := fun b s h => by
    simp only [Gh.fix]
    rw [if_neg]
    · exact h
    · rintro ⟨id, v, S, hx⟩
      rw [(hR'.ap _ _ _ _ hx).1] at h; cases h
  have hC : ∀ b s, G.C b = some s → (G.fix G' w').C b = some s := fun b s h => hC2 _ _ (hE.le.C b s h)
  have hle : Le 0 G (G.fix G' w') := ⟨fun _ id v b S h => ⟨v, b, S, h, Nat.le_refl _, fun _ => ⟨rfl, rfl⟩⟩, fun _ _ _ h => h, hC⟩
  have hsame : ∀ b, b < w.heap.size → w'.heap[b]? = w.heap[b]? := fun b hb => hE.frame b hb (fun _ _ _ h => nomatch h)
  refine ⟨⟨hR'.below, hR.dom, fun id v b S h => ?_, hR.inj, fun b s h => ?_, fun b s h => ?_, fun id v b S h => ⟨?_, (hR.ap _ _ _ _ h).2⟩⟩, ⟨hle, rfl, fun id v b S v' b' S' h h' => ?_, fun id v b S h h' => ?_, fun b s h => ?_, hE.size, fun b hb _ => hsame b hb⟩, ⟨fun e => absurd e (by decide), fun e => absurd e (by decide), hC2⟩, fun id v b S h cs t hb => ?_⟩
  · obtain ⟨o, cs, cr, t, k1, k2, k3, k4, k5, k6⟩ := hR.obj _ _ _ _ h
    exact ⟨o, cs, cr, t, k1, k2, k3, by rw [hsame _ (blk_lt' k4)]; exact k4, k5, k6.mono hle⟩
  · simp only [Gh.fix] at h
    split at h
    · rename_i hx
      obtain ⟨id, v, S, hx⟩ := hx
      obtain ⟨o, cs, cr, t, k1, k2, k3, k4, k5, k6⟩ := hR'.obj _ _ _ _ hx
      rw [held_of k4] at h; cases h
      exact ⟨k3, _, _, _, k4, fun j u hu => by simpa using hu⟩
    · exact hR'.C _ _ h
  · obtain ⟨h1, c, t, fr, h2, h3⟩ := hR.D _ _ h
    exact ⟨h1, c, t, fr, by rw [hsame _ (blk_lt' h2)]; exact h2, h3⟩
  · obtain ⟨o, cs, cr, t, k1, k2, k3, k4, k5, k6⟩ := hR.obj _ _ _ _ h
    have hlt := blk_lt' k4
    simp only [Gh.fix]
    rw [if_neg]
    · cases hq : G'.C b with
      | none => rfl
      | some s =>
        rcases hE.Cn _ _ hq with e | e
        · have : G.C b = some s := e
          rw [(hR.ap _ _ _ _ h).1] at this; cases this
        · omega
    · rintro ⟨id', v', S', hx⟩
      have := hnew _ _ _ _ hx; omega
  · have h1 : G.ob id = some (v', b', S') := h'
    rw [h] at h1; cases h1; exact .inl rfl
  · have h1 : G.ob id = some (v, b, S) := h
    rw [h'] at h1; cases h1
  · simp only [Gh.fix] at h
    split at h
    · rename_i hx
      obtain ⟨id, v, S, hx⟩ := hx
      exact .inr (hnew _ _ _ _ hx)
    · exact hE.Cn _ _ h
  · refine ⟨cs.toList, ?_, fun j u hu => by simpa using hu⟩
    simp only [Gh.fix]
    rw [if_pos ⟨id, v, S, h⟩, held_of hb]

/-- Behind a call whose objects are taken over. -/
def Gh.imp (G G' : Gh) (n : Nat) : Gh where
  ob := fun id => if id < n then G.ob id else G'.ob (id - n)
  C := G'.C
  D := G.D

theorem Rel.imp (hR : Rel W0 G H w) {G' : Gh} {H' H'' : Heap} {w' : World} (hR' : Rel W0 G' H' w') (hE : Ext (G.iso w) [] w G' w') (hg : Gr G' [] H') (hs : H'.mapM (shiftO H.length) = some H'') :
    Rel W0 (G.imp G' H.length) (H ++ H'') w' ∧ Ext G H w (G.imp G' H.length) w' ∧ Le 2 G' (G.imp G' H.length) ∧ (∀ id x, G'.ob id = some x → (G.imp G' H.length).ob (id + H.length) = some x) ∧ Gr (G.imp G' H.length) H (H ++ H'') := by
  have hnew : ∀ id v b S, G'.ob id = some (v, b, S) → w.heap.size ≤ b := fun id v b S h => (hE.new _ _ _ _ h rfl).2
  have hC : ∀ b s, G.C b = some s → G'.C b = some s := fun b s h => hE.le.C b s h
  have hle : Le 0 G (G.imp G' H.length) := ⟨fun _ id v b S h => ⟨v, b, S, by simp [Gh.imp, hR.dom _ _ _ _ h, h], Nat.le_refl _, fun _ => ⟨rfl, rfl⟩⟩, fun _ _ _ h => h, hC⟩
  have hle2 : Le 2 G' (G.imp G' H.length) := ⟨fun e => absurd e (by decide), fun e => absurd e (by decide), fun _ _ h => h⟩
  have hob : ∀ id x, G'.ob id = some x → (G.imp G' H.length).ob (id + H.length) = some x := fun id x h => by
    have hn : ¬ id + H.length < H.length := by omega
    simp only [Gh.imp, hn, if_false, Nat.add_sub_cancel]; exact h
  have hsame : ∀ b, b < w.heap.size → w'.heap[b]? = w.heap[b]? := fun b hb => hE.frame b hb (fun _ _ _ h => nomatch h)
  have hlen := mapM_length hs
  have hold : ∀ id v b S, G.ob id = some (v, b, S) → b < w.heap.size := fun id v b S h => by
    obtain ⟨o, cs, cr, t, k1, k2, k3, k4, k5, k6⟩ := hR.obj _ _ _ _ h
    exact blk_lt' k4
  refine ⟨⟨hR'.below, fun id v b S h => ?_, fun id v b S h => ?_, fun id id' v b S v' S' h h' => ?_, hR'.C, fun b s h => ?_, fun id v b S h => ?_⟩, ⟨hle, rfl, fun id v b S v' b' S' h h' => ?_, fun id v b S h h' => ?_, fun b s h => hE.Cn _ _ h, hE.size, fun b hb _ => hsame b hb⟩, hle2, hob, ⟨by simp, fun id h1 h2 => ?_⟩⟩
  · simp only [Gh.imp] at h
    split at h
    · simp; omega
    · have := hR'.dom _ _ _ _ h; simp; omega
  · simp only [Gh.imp] at h
    split at h
    · obtain ⟨o, cs, cr, t, k1, k2, k3, k4, k5, k6⟩ := hR.obj _ _ _ _ h
      exact ⟨o, cs, cr, t, by rw [List.getElem?_append_left (by omega)]; exact k1, k2, k3, by rw [hsame _ (blk_lt' k4)]; exact k4, k5, k6.mono hle⟩
    · rename_i hid
      obtain ⟨o, cs, cr, t, k1, k2, k3, k4, k5, k6⟩ := hR'.obj _ _ _ _ h
      obtain ⟨o', k7, k8⟩ := mapM_get hs _ _ k1
      unfold shiftO at k8
      cases hm : o.cells.mapM (shiftA H.length depth) with
      | none =>
        simp [hm] at k8; subst k8
        refine ⟨⟨o.ver, o.cells.map fun c => (shiftA H.length depth c).getD .undef⟩, cs, cr, t, by rw [List.getElem?_append_right (by omega)]; exact k7, k2, k3, k4, k5, by simpa using k6.1, fun j hj => ?_⟩
        have hj' : j < o.cells.length := by simpa using hj
        have e : (o.cells.map fun c => (shiftA H.length depth c).getD .undef).getD j .undef = (shiftA H.length depth o.cells[j]).getD .undef := by
          simp [List.getD_eq_getElem?_getD, hj']
        show VR W0 _ 0 ((o.cells.map fun c => (shiftA H.length depth c).getD .undef).getD j .undef) _
        rw [e]
        cases hq : shiftA H.length depth o.cells[j] with
        | none => exact .undef _
        | some v' =>
          have := k6.2 j hj'
          rw [List.getD_eq_getElem?_getD, List.getElem?_eq_getElem hj', Option.getD_some] at this
          exact shiftA_spec hle2 hob depth _ _ _ hq this
      | some cs' =>
        simp [hm] at k8; subst k8
        exact ⟨⟨o.ver, cs'⟩, cs, cr, t, by rw [List.getElem?_append_right (by omega)]; exact k7, k2, k3, k4, k5, mapM_spec hm k6 (fun v v' c => shiftA_spec hle2 hob depth v v' c)⟩
  · simp only [Gh.imp] at h h'
    split at h <;> split at h'
    · exact hR.inj _ _ _ _ _ _ _ h h'
    · have := hold _ _ _ _ h; have := hnew _ _ _ _ h'; omega
    · have := hold _ _ _ _ h'; have := hnew _ _ _ _ h; omega
    · have := hR'.inj _ _ _ _ _ _ _ h h'; omega
  · obtain ⟨h1, c, t, fr, h2, h3⟩ := hR.D _ _ h
    exact ⟨h1, c, t, fr, by rw [hsame _ (blk_lt' h2)]; exact h2, h3⟩
  · simp only [Gh.imp] at h
    split at h
    · refine ⟨?_, (hR.ap _ _ _ _ h).2⟩
      have hlt := hold _ _ _ _ h
      show G'.C b = none
      cases hq : G'.C b with
      | none => rfl
      | some s =>
        rcases hE.Cn _ _ hq with e | e
        · have : G.C b = some s := e
          rw [(hR.ap _ _ _ _ h).1] at this; cases this
        · omega
    · refine ⟨(hR'.ap _ _ _ _ h).1, ?_⟩
      show G.D b = none
      cases hq : G.D b with
      | none => rfl
      | some s =>
        obtain ⟨_, c, t, fr, h2, _⟩ := hR.D _ _ hq
        have := blk_lt' h2; have := hnew _ _ _ _ h; omega
  · have h1 := h'
    simp only [Gh.imp, hR.dom _ _ _ _ h, if_true] at h1
    rw [h] at h1; cases h1; exact .inl rfl
  · simp only [Gh.imp] at h
    split at h
    · rw [h'] at h; cases h
    · exact ⟨by omega, hnew _ _ _ _ h⟩
  · simp at h2
    obtain ⟨x, hx⟩ := hg.tot (id - H.length) (Nat.zero_le _) (by omega)
    have := hob _ _ hx
    rw [Nat.sub_add_cancel h1] at this
    exact ⟨x, this⟩

/-- A call in any of the ways. -/
theorem callA_spec {R : Nat → List AV → Heap → Option (AV × Heap)} (RS : CallSound P W0 R) {mode f : Nat} {args : List AV} {v : AV} {H' : Heap} (h : callA R mode f args H = some (v, H')) :
    CallOk P f ∧ ∀ G w cargs, Rel W0 G H w → VL W0 G 0 args cargs → Calls P f cargs.toArray w (Post W0 G H w v H') := by
  unfold callA at h
  split at h
  · obtain ⟨hok, hcall⟩ := RS _ _ _ _ _ h
    exact ⟨hok.1, hcall⟩
  · cases ha : args.mapM (snapA H depth) with
    | none => simp [ha] at h
    | some as =>
      simp only [ha] at h
      cases hr : R f as [] with
      | none => simp [hr] at h
      | some r =>
        obtain ⟨v1, H1⟩ := r
        simp only [hr] at h
        cases hf : freeA H1 depth v1 with
        | none => simp [hf] at h
        | some v2 =>
          simp [hf] at h
          obtain ⟨rfl, rfl⟩ := h
          obtain ⟨hok, hcall⟩ := RS _ _ _ _ _ hr
          refine ⟨hok.1, fun G w cargs hR hv => ?_⟩
          obtain ⟨i1, i2, i3⟩ := hR.iso
          refine (hcall _ w cargs i1 (VL.weaken (mapM_spec ha hv (fun v v' c => snapA_spec hR i2 i3 depth v v' c)) (Nat.zero_le 1))).mono ?_
          rintro e w' ⟨c, G', rfl, hvc, hR', hE, hg⟩
          obtain ⟨f1, f2, f3, f4⟩ := hR.fix hR' hE
          exact ⟨c, _, rfl, (freeA_spec hR' f3 f4 depth _ _ _ hf hvc).weaken (Nat.zero_le 2), f1, f2, Gr.same rfl⟩
  · split at h
    · rename_i hs
      cases hr : R f args H with
      | none => simp [hr] at h
      | some r =>
        obtain ⟨v1, H1⟩ := r
        simp [hr] at h
        obtain ⟨rfl, rfl⟩ := h
        obtain ⟨hok, hcall⟩ := RS _ _ _ _ _ hr
        obtain rfl := hok.2 hs
        exact ⟨hok.1, hcall⟩
    · cases h
  · cases ha : args.mapM (snapA H depth) with
    | none => simp [ha] at h
    | some as =>
      simp only [ha] at h
      cases hr : R f as [] with
      | none => simp [hr] at h
      | some r =>
        obtain ⟨v1, H1⟩ := r
        simp only [hr] at h
        split at h
        · rename_i v2 H2 hf hs
          cases h
          obtain ⟨hok, hcall⟩ := RS _ _ _ _ _ hr
          refine ⟨hok.1, fun G w cargs hR hv => ?_⟩
          obtain ⟨i1, i2, i3⟩ := hR.iso
          refine (hcall _ w cargs i1 (VL.weaken (mapM_spec ha hv (fun v v' c => snapA_spec hR i2 i3 depth v v' c)) (Nat.zero_le 1))).mono ?_
          rintro e w' ⟨c, G', rfl, hvc, hR', hE, hg⟩
          obtain ⟨f1, f2, f3, f4, f5⟩ := hR.imp hR' hE hg hs
          exact ⟨c, _, rfl, shiftA_spec f3 f4 depth _ _ _ hf hvc, f1, f2, f5⟩
        · cases h
end
end Go.X

/-! Each operation that is made is sound. -/
set_option linter.unusedSimpArgs false
set_option linter.unusedVariables false
set_option linter.unusedSectionVars false
namespace Go.X
open Go Go.RowKit

section
variable {P : Program} {W0 : World} [GlobOk W0] {G : Gh} {H : Heap} {w : World}

theorem eqGuard_int (op : BinOp) (t : TypeId) (x y : Operand) (k k' : IntKind) (a b : Int) (w : World) : (eqGuard op t x y (.int k a) (.int k' b)).run P w = .ok () w := by
  unfold eqGuard; split <;> rfl

theorem eqGuard_bool (op : BinOp) (t : TypeId) (x y : Operand) (a b : Bool) (w : World) : (eqGuard op t x y (.bool a) (.bool b)).run P w = .ok () w := by
  unfold eqGuard; split <;> rfl

theorem eqGuard_slice (op : BinOp) (t : TypeId) (x y : Operand) (A B : Option Addr) (n m c d : Nat) (w : World) : (eqGuard op t x y (.slice A n c) (.slice B m d)).run P w = .ok () w := by
  unfold eqGuard; split <;> rfl

theorem binA_spec {op : BinOp} {t : TypeId} {x y v : AV} {c d : Value} (hx : VR W0 G 0 x c) (hy : VR W0 G 0 y d) (hv : binA op x y = some v) :
    ∃ u, (binOp op t c d).run P w = .ok u w ∧ VR W0 G 0 v u := by
  cases hx with
  | int k a =>
    cases hy with
    | int k' b =>
      cases op <;> simp only [binA] at hv <;> (try split at hv) <;> (try (cases hv; done)) <;>
        first
          | (rename_i h; cases hv; refine ⟨_, ?_, .int _ _⟩; simp [binOp, Op.shift, Int.not_lt.2 h]; done)
          | (rename_i h; subst h; cases hv; refine ⟨_, ?_, .int _ _⟩; simp [binOp, Op.intArith]; done)
          | (rename_i h; obtain ⟨rfl, h⟩ := h; cases hv; refine ⟨_, ?_, .int _ _⟩; simp [binOp, Op.intDiv, h]; done)
          | (rename_i h; subst h; cases hv; refine ⟨_, ?_, .bool _⟩; simp [binOp, Op.intCmp]; done)
          | (rename_i h; subst h; simp only [bitsA] at hv; cases hv; refine ⟨_, ?_, .int _ _⟩; simp [binOp, Op.intBits]; done)
          | (rename_i h; subst h; simp only [bitsA] at hv; cases hv)
    | _ => simp [binA] at hv
  | _ => simp [binA] at hv

theorem eql_bool {t : TypeId} (ht : P.underlying t = some .bool) (a b : Bool) (w : World) : (binOp .eql t (.bool a) (.bool b)).run P w = .ok (.bool (a == b)) w := by
  have := run_equalIn_bool' (P := P) w 9999 t a b ht
  show ((Op.equal t (.bool a) (.bool b)).bind fun r => Sem.pure (Value.bool r)).run P w = _
  rw [Sem.run_bind']
  show (((Op.equalIn (9999 + 1) t (.bool a) (.bool b)).run P w).andThen _) = _
  rw [this]; rfl

theorem neq_bool {t : TypeId} (ht : P.underlying t = some .bool) (a b : Bool) (w : World) : (binOp .neq t (.bool a) (.bool b)).run P w = .ok (.bool (!(a == b))) w := by
  have := run_equalIn_bool' (P := P) w 9999 t a b ht
  show ((Op.equal t (.bool a) (.bool b)).bind fun r => Sem.pure (Value.bool (!r))).run P w = _
  rw [Sem.run_bind']
  show (((Op.equalIn (9999 + 1) t (.bool a) (.bool b)).run P w).andThen _) = _
  rw [this]; rfl

theorem eqbA_spec {t : TypeId} (ht : P.underlying t = some .bool) {neg : Bool} {x y v : AV} {c d : Value} (hx : VR W0 G 0 x c) (hy : VR W0 G 0 y d) (hv : eqbA neg x y = some v) :
    ∃ u, (binOp (if neg then .neq else .eql) t c d).run P w = .ok u w ∧ VR W0 G 0 v u ∧ (∃ a b, c = .bool a ∧ d = .bool b) := by
  cases hx with
  | bool a =>
    cases hy with
    | bool b =>
      simp only [eqbA] at hv; cases hv
      cases neg
      · exact ⟨_, eql_bool ht a b w, by have := VR.bool (W0 := W0) (G := G) (l := 0) (a == b); simpa using this, a, b, rfl, rfl⟩
      · exact ⟨_, neq_bool ht a b w, by have := VR.bool (W0 := W0) (G := G) (l := 0) (!(a == b)); simpa using this, a, b, rfl, rfl⟩
    | _ => simp [eqbA] at hv
  | _ => simp [eqbA] at hv

theorem eqCells_spec (d : Nat) : ∀ (fs : List Field) (i : Nat) (ks : List Bool) (xs ys : List AV) (cs ds : List Value) (r : Bool), flatA P i fs = some ks → VL W0 G 0 xs cs → VL W0 G 0 ys ds →
    eqCells ks (xs.drop i) (ys.drop i) = some r → (Op.eqFields (d + 1) cs.toArray ds.toArray fs).run P w = .ok r w
  | [], i, ks, xs, ys, cs, ds, r, hf, hx, hy, he => by
    simp [flatA] at hf; subst hf
    cases h1 : xs.drop i with
    | nil => cases h2 : ys.drop i with
      | nil => rw [h1, h2] at he; simp [eqCells] at he; subst he; rfl
      | cons y l => rw [h1, h2] at he; simp [eqCells] at he
    | cons x l => rw [h1] at he; simp [eqCells] at he
  | f :: fs, i, ks, xs, ys, cs, ds, r, hf, hx, hy, he => by
    simp only [flatA] at hf
    split at hf
    · rename_i hn
      simp only [Bool.and_eq_true, bne_iff_ne, ne_eq, beq_iff_eq] at hn
      obtain ⟨hname, hoff⟩ := hn
      have hlt : ∀ {l : List AV} {b ks'}, ks = b :: ks' → l.drop i ≠ [] → i < l.length := fun {l b ks'} _ h => by
        rcases Nat.lt_or_ge i l.length with h' | h'
        · exact h'
        · exact absurd (List.drop_eq_nil_of_le h') h
      have main : ∀ (b : Bool) (ks' : List Bool), ks = b :: ks' → flatA P (i + 1) fs = some ks' → (∀ p q r', i < cs.length → i < ds.length → (h1 : i < xs.length) → (h2 : i < ys.length) → eqCells ks (xs[i] :: p) (ys[i] :: q) = some r' →
          ∃ e r'', r' = (e && r'') ∧ eqCells ks' p q = some r'' ∧ (∀ u v, VR W0 G 0 xs[i] u → VR W0 G 0 ys[i] v → (Op.equalIn (d + 1) f.type u v).run P w = .ok e w)) → (isAgg f.type).run P w = .ok false w →
          (Op.eqFields (d + 1) cs.toArray ds.toArray (f :: fs)).run P w = .ok r w := by
        intro b ks' hks hrest hcell hagg
        have hi : i < xs.length := by
          refine hlt hks (fun e => ?_)
          rw [e, hks] at he; cases b <;> simp [eqCells] at he
        have hi' : i < ys.length := by
          refine hlt hks (fun e => ?_)
          rw [List.drop_eq_getElem_cons hi, e, hks] at he; cases b <;> cases xs[i] <;> simp [eqCells] at he
        have hic : i < cs.length := by rw [← hx.1]; exact hi
        have hid : i < ds.length := by rw [← hy.1]; exact hi'
        rw [List.drop_eq_getElem_cons hi, List.drop_eq_getElem_cons hi'] at he
        obtain ⟨e, r'', hr, hr2, hrun⟩ := hcell _ _ _ hic hid hi hi' he
        have hxv := hx.2 i hi
        have hyv := hy.2 i hi'
        simp only [List.getD_eq_getElem?_getD, List.getElem?_eq_getElem hi, List.getElem?_eq_getElem hi', List.getElem?_eq_getElem hic, List.getElem?_eq_getElem hid, Option.getD_some] at hxv hyv
        have hp1 : (part f.type cs.toArray f.offset).run P w = .ok cs[i] w := by simp [part, hagg, hoff, hic]
        have hp2 : (part f.type ds.toArray f.offset).run P w = .ok ds[i] w := by simp [part, hagg, hoff, hid]
        simp only [Op.eqFields, hname, not_false_eq_true, if_true, ne_eq, Sem.run_bind, hp1, hp2, hrun _ _ hxv hyv, Result.andThen_ok]
        cases e with
        | false => rw [hr]; simp
        | true =>
          rw [hr]
          simp only [Bool.not_true, Bool.false_eq_true, if_false, Bool.true_and]
          exact eqCells_spec d fs (i + 1) ks' xs ys cs ds r'' hrest hx hy hr2
      split at hf
      · rename_i kd ks' hu hrest
        cases hf
        refine main true ks' rfl hrest (fun p q r' _ _ h1 h2 h => ?_) (by unfold isAgg; rw [Sem.run_bind, run_underlying hu w]; rfl)
        generalize xs[i] = x at h
        generalize ys[i] = y at h
        cases x <;> cases y <;> simp only [eqCells, reduceCtorEq] at h
        split at h
        · rename_i hk
          subst hk
          cases hr : eqCells ks' p q with
          | none => simp [hr] at h
          | some r'' =>
            simp [hr] at h
            refine ⟨_, r'', h.symm, rfl, fun u v hu' hv' => ?_⟩
            cases hu'; cases hv'
            exact run_equalIn_int (P := P) w d f.type _ _ _ _ hu
        · cases h
      · rename_i ks' hu hrest
        cases hf
        refine main false ks' rfl hrest (fun p q r' _ _ h1 h2 h => ?_) (by unfold isAgg; rw [Sem.run_bind, run_underlying hu w]; rfl)
        generalize xs[i] = x at h
        generalize ys[i] = y at h
        cases x <;> cases y <;> simp only [eqCells, reduceCtorEq] at h
        cases hr : eqCells ks' p q with
        | none => simp [hr] at h
        | some r'' =>
          simp [hr] at h
          refine ⟨_, r'', h.symm, rfl, fun u v hu' hv' => ?_⟩
          cases hu'; cases hv'
          exact run_equalIn_bool' (P := P) w d f.type _ _ hu
      · cases hf
    · cases hf

theorem eqsA_spec {t : TypeId} {fs : Array Field} {ks : List Bool} (ht : P.underlying t = some (.struct fs)) (hf : flatA P 0 fs.toList = some ks) (hp : P.stoodInHeld t = false) {neg : Bool} {x y v : AV} {c d : Value} (hx : VR W0 G 0 x c) (hy : VR W0 G 0 y d)
    (hv : eqsA neg ks x y = some v) : ∃ xs ys u, c = .agg xs ∧ d = .agg ys ∧ (binOp (if neg then .neq else .eql) t c d).run P w = .ok u w ∧ VR W0 G 0 v u := by
  cases hx with
  | agg vs cs hn r =>
    cases hy with
    | agg us ds hn' r' =>
      simp only [eqsA] at hv
      cases he : eqCells ks vs us with
      | none => simp [he] at hv
      | some q =>
        simp [he] at hv; subst hv
        have hfo : P.fieldsOf t = fs := by simp [Program.fieldsOf, ht]
        have h1 := run_equalIn_struct (P := P) w 9999 t cs.toArray ds.toArray (by rw [hfo]; exact ht) hp
        rw [hfo, eqCells_spec (P := P) (w := w) 9998 fs.toList 0 ks vs us cs ds q hf ⟨hn, r⟩ ⟨hn', r'⟩ (by simpa using he)] at h1
        refine ⟨cs.toArray, ds.toArray, .bool (q != neg), rfl, rfl, ?_, .bool _⟩
        cases neg
        · show ((Op.equal t _ _).bind fun r => Sem.pure (Value.bool r)).run P w = _
          rw [Sem.run_bind']
          show (((Op.equalIn (9999 + 1) t _ _).run P w).andThen _) = _
          rw [h1]; simp
        · show ((Op.equal t _ _).bind fun r => Sem.pure (Value.bool (!r))).run P w = _
          rw [Sem.run_bind']
          show (((Op.equalIn (9999 + 1) t _ _).run P w).andThen _) = _
          rw [h1]; simp
    | _ => simp [eqsA] at hv
  | _ => simp [eqsA] at hv

theorem equalIn_slice {t e : TypeId} (ht : P.underlying t = some (.slice e)) (d : Nat) (A : Option Addr) (n c m k : Nat) (w : World) : (Op.equalIn (d + 1) t (.slice A n c) (.slice none m k)).run P w = .ok A.isNone w := by
  cases A <;> simp [Op.equalIn, run_underlying ht]

theorem eql_slice {t e : TypeId} (ht : P.underlying t = some (.slice e)) (A : Option Addr) (n c m k : Nat) (w : World) : (binOp .eql t (.slice A n c) (.slice none m k)).run P w = .ok (.bool A.isNone) w := by
  show ((Op.equal t _ _).bind fun r => Sem.pure (Value.bool r)).run P w = _
  rw [Sem.run_bind']
  show (((Op.equalIn (9999 + 1) t _ _).run P w).andThen _) = _
  rw [equalIn_slice ht]; rfl

theorem neq_slice {t e : TypeId} (ht : P.underlying t = some (.slice e)) (A : Option Addr) (n c m k : Nat) (w : World) : (binOp .neq t (.slice A n c) (.slice none m k)).run P w = .ok (.bool (!A.isNone)) w := by
  show ((Op.equal t _ _).bind fun r => Sem.pure (Value.bool (!r))).run P w = _
  rw [Sem.run_bind']
  show (((Op.equalIn (9999 + 1) t _ _).run P w).andThen _) = _
  rw [equalIn_slice ht]; rfl

theorem eqnA_spec {t e : TypeId} (ht : P.underlying t = some (.slice e)) {neg : Bool} {x v : AV} {c : Value} (m k : Nat) (hx : VR W0 G 0 x c) (hv : eqnA neg x = some v) :
    ∃ A n cc u, c = .slice A n cc ∧ (binOp (if neg then .neq else .eql) t c (.slice none m k)).run P w = .ok u w ∧ VR W0 G 0 v u := by
  cases hx with
  | nils =>
    simp [eqnA] at hv; subst hv
    cases neg
    · exact ⟨none, 0, 0, _, rfl, eql_slice ht _ _ _ _ _ w, .bool _⟩
    · exact ⟨none, 0, 0, _, rfl, neq_slice ht _ _ _ _ _ w, .bool _⟩
  | imm sn cells len A cc u hl hc h h0 r =>
    cases len with
    | zero => simp [eqnA] at hv
    | succ len =>
      simp [eqnA] at hv; subst hv
      cases A with
      | none => exact absurd (h0 rfl).1 (by omega)
      | some a =>
        cases neg
        · exact ⟨some a, _, cc, _, rfl, eql_slice ht _ _ _ _ _ w, .bool _⟩
        · exact ⟨some a, _, cc, _, rfl, neq_slice ht _ _ _ _ _ w, .bool _⟩
  | sl id ver esz off len cap a cc hc hcap h =>
    simp [eqnA] at hv; subst hv
    cases neg
    · exact ⟨some a, _, cc, _, rfl, eql_slice ht _ _ _ _ _ w, .bool _⟩
    · exact ⟨some a, _, cc, _, rfl, neq_slice ht _ _ _ _ _ w, .bool _⟩
  | _ => simp [eqnA] at hv

theorem mnxA_spec (isMax : Bool) : ∀ (n : Nat) (vs : List AV) (cs : List Value) (v : AV), vs.length ≤ n → VL W0 G 0 vs cs → mnxA isMax vs = some v →
    ∃ c rest u, cs = c :: rest ∧ (rest.foldlM (if isMax then Builtin.max2 else Builtin.min2) c).run P w = .ok u w ∧ VR W0 G 0 v u := by
  intro n
  induction n with
  | zero =>
    intro vs cs v hn hv h
    have : vs = [] := List.eq_nil_of_length_eq_zero (by omega)
    subst this; simp [mnxA] at h
  | succ n ih =>
    intro vs cs v hn hv h
    match vs, cs, hv with
    | [], _, _ => simp [mnxA] at h
    | x :: xs, [], hv => simpa using hv.1
    | x :: [], c :: d :: cs, hv => simpa using hv.1
    | [x], [c], hv =>
      have hx := hv.head.1
      unfold mnxA at h
      split at h <;> try (cases h; done)
      · rename_i k a heq
        cases heq
        cases h
        exact ⟨c, [], c, rfl, rfl, hx⟩
      · rename_i heq; cases heq
    | x :: y :: xs, [c], hv => simpa using hv.1
    | x :: y :: xs, c :: d :: cs, hv =>
      unfold mnxA at h
      split at h <;> try (cases h; done)
      · rename_i heq; cases heq
      · rename_i k a k' b rest heq
        cases heq
        have hx := hv.head.1
        have hy := hv.head.2.head.1
        have hr := hv.head.2.head.2
        cases hx; cases hy
        obtain ⟨c', rest', u, h1, h2, h3⟩ := ih _ (.int k (if isMax then (if b > a then b else a) else (if b < a then b else a)) :: cs) v (by simp at hn ⊢; omega) (VL.cons (.int _ _) hr) h
        cases h1
        refine ⟨_, _, u, rfl, ?_, h3⟩
        rw [List.foldlM_cons, Sem.run_bind]
        have hstep : ((if isMax then Builtin.max2 else Builtin.min2) (.int k a) (.int k' b)).run P w = .ok (.int k (if isMax then (if b > a then b else a) else (if b < a then b else a))) w := by
          cases isMax <;> rfl
        rw [hstep]; exact h2
end
end Go.X
