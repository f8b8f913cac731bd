import Derived.Test.YtchgifdkhknppaaUE
import Derived.Test.YtchgifdkhknppaaUI
import Derived.Test.YtchgifdkhknppaaVA
/-! Veils: All, called for what lies in new memory. -/
set_option linter.unusedSimpArgs false
set_option linter.unusedVariables false
set_option maxHeartbeats 8000000
set_option maxRecDepth 10000
namespace Go.X
open Go Go.RowKit
section
variable {Y : Run} {H : Heap}

theorem HTab.shiftUp {k : Nat} {R L : Heap} {v : AV} {t : List (List Int)} {cells : List AV} (h : HTab k R v t cells) : shiftA L.length 6 v = some (upV L.length v) := h.gro.shift

theorem Lst.shift {K : Nat} {R L : Heap} {o : AV} {oc : List AV} {ts : List (List (List Int))} {b e : Nat → Nat} {cs : Nat → List AV} (h : Lst K 0 R o oc ts b e cs) :
    Lst L.length 0 (L ++ R.map (shO L.length)) (upV L.length o) (oc.map (upV L.length)) ts (fun j => b j + L.length) (fun j => e j + L.length) (fun j => (cs j).map (upV L.length)) := by
  have hol : oc.length = ts.length := by have := h.out.1; omega
  have g : ∀ j, j < ts.length → (oc.map (upV L.length)).getD j .undef = upV L.length (oc.getD j .undef) := fun j hj => by
    rw [getD_get (by simp; omega), getD_get (by omega)]; simp
  have gc : ∀ (cl : List AV) j, idOf ((cl.map (upV L.length)).getD j .undef) = idOf (upV L.length (cl.getD j .undef)) := fun cl j => by
    rw [List.getD_eq_getElem?_getD, List.getElem?_map, List.getD_eq_getElem?_getD]
    cases cl[j]? <;> rfl
  refine ⟨⟨by simp; omega, ?_⟩, fun j hj _ => ?_, fun j hj => ?_, fun j hj => ?_, fun j l hjl hl => ?_, fun j i hj hi => ?_⟩
  · obtain ⟨h1, ⟨h0, rfl⟩ | ⟨id, ver, _, rfl, hH⟩⟩ := h.out
    · exact .inl ⟨h0, rfl⟩
    · refine .inr ⟨id + L.length, ver, by omega, rfl, ?_⟩
      rw [shift_get hH]
      unfold shO
      simp only
      have hm : oc.mapM (shiftA L.length depth) = some ((List.range oc.length).map fun j => upV L.length (oc.getD j .undef)) := mapM_rng _ _ fun j hj => by
        rw [show depth = 5 + 1 from rfl]; exact (h.tab j (by omega) (Nat.zero_le _)).gro.shift
      rw [hm]
      simp only [Option.some.injEq, Ob.mk.injEq, true_and]
      refine List.ext_getElem (by simp) fun j h1 h2 => ?_
      have hj : j < oc.length := by simpa using h1
      simp [List.getD_eq_getElem?_getD, hj]
  · rw [g j hj]
    exact ((h.tab j hj (Nat.zero_le _)).shift).mono (Nat.zero_le _)
  · rw [g j hj]
    have r := h.rng j hj
    refine ⟨fun i hi => ?_, fun m i hm hi => ?_⟩
    · obtain ⟨a, a1, rfl⟩ := idOf_up.1 hi
      have := r.1 a a1; omega
    · rw [gc] at hi
      obtain ⟨a, a1, rfl⟩ := idOf_up.1 hi
      have := r.2 m a hm a1; omega
  · have := h.lo j hj
    rw [List.length_append, List.length_map]; omega
  · have := h.ord j l hjl hl; omega
  · obtain ⟨a, a1, rfl⟩ := idOf_up.1 hi
    have := h.sep j a hj a1; omega

/-- All, called for what lies in new memory. -/
theorem all18_2 {n : Nat} (h1 : 1 ≤ n) (h5 : n ≤ 5) (hB : (allL n).length ≤ 1000000) : ∃ o H' oc b e cs, callA (callL EV Y) 2 18 [vI n] H = some (.tup [o, vI 0], H') ∧ Lst H.length 0 H' o oc (allL n) b e cs := by
  obtain ⟨o, R, oc, b, e, cs, q1, q2⟩ := all18 (Y := Y) h1 h5 hB
  refine ⟨upV H.length o, H ++ R.map (shO H.length), _, _, _, _, ?_, q2.shift⟩
  have hs : [vI (n : Int)].mapM (snapA H 6) = some [vI (n : Int)] := rfl
  simp only [callA, show depth = 6 from rfl, hs, q1, mapM_shO]
  have : shiftA H.length 6 (.tup [o, vI 0]) = some (.tup [upV H.length o, vI 0]) := by
    have e : shiftA H.length 6 (.tup [o, vI 0]) = ([o, vI 0].mapM (shiftA H.length 5)).map .tup := rfl
    rw [e, mapM_cons', mapM_cons', q2.out.shift]
    rfl
  rw [this]
theorem all18_no2 {n : Int} (h : ¬ (1 ≤ n ∧ n ≤ 5)) : callA (callL EV Y) 2 18 [vI n] H = some (.tup [.nils, vI 2], H) := by
  have hs : [vI n].mapM (snapA H 6) = some [vI n] := rfl
  simp only [callA, show depth = 6 from rfl, hs, all18_no h, mapM_shO]
  have : shiftA H.length 6 (.tup [.nils, vI 2]) = some (.tup [.nils, vI 2]) := rfl
  rw [this]
  simp

end
end Go.X
