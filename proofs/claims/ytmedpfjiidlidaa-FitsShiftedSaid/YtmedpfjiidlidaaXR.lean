import Derived.Test.YtmedpfjiidlidaaXQ
import Derived.Test.YtmedpfjiidlidaaXS
/-! The mixture against which some fashions gain the same: the program's numbers. -/
set_option linter.unusedSimpArgs false
set_option linter.unusedVariables false
set_option maxHeartbeats 2000000
set_option maxRecDepth 10000
namespace Go.X
open Go Go.RowKit
section
variable {Y : Run} {H : Heap}

theorem c48_1 {s s0 : Bool} {a : Int} : freeX H (callL E Y 48 [.imm s [.imm s0 [vI a] 1] 1, vI 1] []) = some (resP [1] 1, H) := by
  have h1 := T48_2 (Y := Y) (H := H) (l := [1]) (set := 1) (id := 3) (H0 := [⟨0, [.nils, vI 0]⟩, ⟨0, [vI 0]⟩, ⟨0, [vI 0]⟩, ⟨0, [vI 1]⟩]) (by decide) (by decide) (by intro x hx; simp at hx; omega) (by decide) rfl rfl
  rw [call48 rfl]
  simp only [SS, insA, wantedA, Opd.ev, putA, binA, eqbA, unA, fldA, partA, reduceIte, reduceCtorEq, Nat.reduceMod, Nat.reduceDiv, Nat.reduceBEq, resultA, resA, vI, Nat.reduceMul, Nat.reduceAdd, Nat.reduceSub, Nat.reduceEqDiff, Nat.reduceLT, Nat.reducePow, Nat.reduceLeDiff, st, Option.bind_eq_bind, Option.pure_def, List.length_nil, Int.cast_ofNat_Int, List.reverse_nil] at h1
  simp only [F48B, F48T3, in48_0, F48L0b, un48_0, SS, insA, wantedA, Opd.ev, putA, binA, eqbA, unA, fldA, partA, reduceIte, reduceCtorEq, Nat.reduceMod, Nat.reduceDiv, Nat.reduceBEq, resultA, resA, vI, Nat.reduceMul, Nat.reduceAdd, Nat.reduceSub, Nat.reduceEqDiff, Nat.reduceLT, Nat.reducePow, Nat.reduceLeDiff, st, Option.bind_eq_bind, Option.pure_def, List.length_nil, Int.cast_ofNat_Int, List.reverse_nil, isU_bool, cells_bool, one_bool, isU_int, cells_int, one_int, isU_nils, cells_nils, one_nils, isU_imm, cells_imm, one_imm, isU_sl, cells_sl, one_sl, isU_ptr, cells_ptr, one_ptr, isU_cptr, cells_cptr, one_cptr, isU_fn, cells_fn, one_fn, isU_agg, cells_agg, len_nils, len_imm, len_sl, nat_int, idxN_some, idx_imm, idx_slice, firstX_some, load_ptr, load_cptr, loads_ptr, loads_cptr, idxP, cellsAt, storeA, fillA, zerosA, putAll, optNat, sliceA, row, List.drop_succ_cons, List.drop_zero, List.drop_nil, List.take_succ_cons, List.take_zero, List.take_nil, List.getElem?_cons_zero, List.getElem?_cons_succ, List.all_cons, List.all_nil, List.length_append, List.length_set, Bool.and_self, Bool.and_true, Bool.true_and, Bool.or_false, Bool.or_true, decide_true, decide_false, Int.reduceAdd, Int.reduceSub, Int.reduceMul, Int.reduceNeg, Int.reduceLT, Int.reduceLE, Int.reduceGT, Int.reduceGE, Int.reduceEq, Int.reduceNe, Int.reduceToNat, Int.reduceBEq, Int.reduceBNe, Int.reduceMod, Int.reduceTMod, Int.reduceTDiv, Int.reducePow, Nat.reduceLeDiff, Nat.reduceLT, Nat.reducePow, Nat.reduceBNe, Nat.reduceGT, Nat.mul_one, Nat.zero_mul, Nat.one_mul, Nat.zero_add, Nat.add_zero, Nat.sub_zero, Option.isSome_some, Option.isSome_none, Option.some.injEq, wrap_id, mnx_min, mnx_max, List.append_assoc, List.range_succ, List.range_zero, Int.zero_add, Int.add_zero, free_sl, freeB_some, Nat.le_refl, List.length_replicate, Int.toNat_zero, freeB_ite, freeS_some, Bool.not_true, Bool.not_false, bitsA, IntKind.bits, Nat.min_def, Int.reduceFDiv, BitVec.reduceOfInt, BitVec.reduceAnd, BitVec.reduceOr, BitVec.reduceNot, BitVec.reduceToNat, BitVec.reduceXOr, Int.ofNat_one, Int.ofNat_zero, Nat.min_zero, Nat.zero_min, Int.pow_zero, av_ite_bool, av_ite_int, decide_eq_false_iff_not, beq_eq_false_iff_ne, Bool.not_eq_true, beq_bt, beq_bf, Bool.not_eq_eq_eq_not, snap_sl, snapS_some, snapB_some, List.getD_cons_zero, List.getD_cons_succ, List.set_cons_succ, List.set_cons_zero, List.replicate_succ, List.replicate_zero, appA, content, h1]

theorem c48_2_1 {s s0 s1 : Bool} {a b c d : Int} (ha : -20 ≤ a ∧ a ≤ 20) (hb : -20 ≤ b ∧ b ≤ 20) (hc : -20 ≤ c ∧ c ≤ 20) (hd : -20 ≤ d ∧ d ≤ 20) :
    freeX H (callL E Y 48 [.imm s [.imm s0 [vI a, vI b] 2, .imm s1 [vI c, vI d] 2] 2, vI 1] []) = some (resP [1, 0] 1, H) := by
  have h1 := T48_2 (Y := Y) (H := H) (l := [1, 0]) (set := 1) (id := 3) (H0 := [⟨0, [.nils, vI 0]⟩, ⟨0, [vI 0]⟩, ⟨0, [vI 0]⟩, ⟨0, [vI (1), vI (0)]⟩]) (by simp) (by simp) (by intro x hx; simp only [List.mem_cons, List.not_mem_nil, or_false] at hx; rcases hx with rfl | rfl <;> omega) (by decide) rfl rfl
  have k := runK (E := E) (Y := Y) (k := 100) (H := []) 5 (c := F48B) (fr := sp 242 [(1, vI 1), (0, .imm s [.imm s0 [vI a, vI b] 2, .imm s1 [vI c, vI d] 2] 2)]) (fr' := sp 242 [(8, .sl 3 0 1 0 2 none), (4, .ptr 0 0 0), (1, vI 1)]) (H' := [⟨0, [.nils, vI 0]⟩, ⟨0, [vI 0]⟩, ⟨0, [vI 0]⟩, ⟨0, [vI (1), vI (0)]⟩]) (by kernel_rfl)
  rw [call48 rfl, k]
  exact h1

theorem c48_2_2 {s s0 s1 : Bool} {a b c d : Int} (ha : -20 ≤ a ∧ a ≤ 20) (hb : -20 ≤ b ∧ b ≤ 20) (hc : -20 ≤ c ∧ c ≤ 20) (hd : -20 ≤ d ∧ d ≤ 20) :
    freeX H (callL E Y 48 [.imm s [.imm s0 [vI a, vI b] 2, .imm s1 [vI c, vI d] 2] 2, vI 2] []) = some (resP [0, 1] 2, H) := by
  have h1 := T48_2 (Y := Y) (H := H) (l := [0, 1]) (set := 2) (id := 3) (H0 := [⟨0, [.nils, vI 0]⟩, ⟨0, [vI 1]⟩, ⟨0, [vI 1]⟩, ⟨0, [vI (0), vI (1)]⟩]) (by simp) (by simp) (by intro x hx; simp only [List.mem_cons, List.not_mem_nil, or_false] at hx; rcases hx with rfl | rfl <;> omega) (by decide) rfl rfl
  have k := runK (E := E) (Y := Y) (k := 100) (H := []) 5 (c := F48B) (fr := sp 242 [(1, vI 2), (0, .imm s [.imm s0 [vI a, vI b] 2, .imm s1 [vI c, vI d] 2] 2)]) (fr' := sp 242 [(8, .sl 3 0 1 0 2 none), (4, .ptr 0 0 0), (1, vI 2)]) (H' := [⟨0, [.nils, vI 0]⟩, ⟨0, [vI 1]⟩, ⟨0, [vI 1]⟩, ⟨0, [vI (0), vI (1)]⟩]) (by kernel_rfl)
  rw [call48 rfl, k]
  exact h1

theorem c48_2_3 {s s0 s1 : Bool} {a b c d : Int} (ha : -20 ≤ a ∧ a ≤ 20) (hb : -20 ≤ b ∧ b ≤ 20) (hc : -20 ≤ c ∧ c ≤ 20) (hd : -20 ≤ d ∧ d ≤ 20) :
    freeX H (callL E Y 48 [.imm s [.imm s0 [vI a, vI b] 2, .imm s1 [vI c, vI d] 2] 2, vI 3] []) = some (resP [b - d, c - a] 3, H) := by
  have w0 : IntKind.wrap .i64 (b - d) = b - d := wrap_id (by omega) (by omega)
  have w1 : IntKind.wrap .i64 (c - a) = c - a := wrap_id (by omega) (by omega)
  have h1 := T48_2 (Y := Y) (H := H) (l := [b - d, c - a]) (set := 3) (id := 4) (H0 := [⟨0, [.nils, vI 0]⟩, ⟨0, [vI 0]⟩, ⟨1, [vI 0, vI 1]⟩, ⟨0, [vI 1]⟩, ⟨0, [vI (b - d), vI (c - a)]⟩]) (by simp) (by simp) (by intro x hx; simp only [List.mem_cons, List.not_mem_nil, or_false] at hx; rcases hx with rfl | rfl <;> omega) (by decide) rfl rfl
  have k := runK (E := E) (Y := Y) (k := 100) (H := []) 5 (c := F48B) (fr := sp 242 [(1, vI 3), (0, .imm s [.imm s0 [vI a, vI b] 2, .imm s1 [vI c, vI d] 2] 2)]) (fr' := sp 242 [(8, .sl 4 0 1 0 2 none), (4, .ptr 0 0 0), (1, vI 3)]) (H' := [⟨0, [.nils, vI 0]⟩, ⟨0, [vI 0]⟩, ⟨1, [vI 0, vI 1]⟩, ⟨0, [vI 1]⟩, ⟨0, [vI ((IntKind.wrap .i64 (b - d))), vI ((IntKind.wrap .i64 (c - a)))]⟩]) (by kernel_rfl)
  simp only [w0, w1] at k
  rw [call48 rfl, k]
  exact h1

theorem c48_3_1 {s s0 s1 s2 : Bool} {a b c d e f g h i : Int} (ha : -20 ≤ a ∧ a ≤ 20) (hb : -20 ≤ b ∧ b ≤ 20) (hc : -20 ≤ c ∧ c ≤ 20) (hd : -20 ≤ d ∧ d ≤ 20) (he : -20 ≤ e ∧ e ≤ 20) (hf : -20 ≤ f ∧ f ≤ 20) (hg : -20 ≤ g ∧ g ≤ 20) (hh : -20 ≤ h ∧ h ≤ 20) (hi : -20 ≤ i ∧ i ≤ 20) :
    freeX H (callL E Y 48 [.imm s [.imm s0 [vI a, vI b, vI c] 3, .imm s1 [vI d, vI e, vI f] 3, .imm s2 [vI g, vI h, vI i] 3] 3, vI 1] []) = some (resP [1, 0, 0] 1, H) := by
  have h1 := T48_2 (Y := Y) (H := H) (l := [1, 0, 0]) (set := 1) (id := 3) (H0 := [⟨0, [.nils, vI 0]⟩, ⟨0, [vI 0]⟩, ⟨0, [vI 0]⟩, ⟨0, [vI (1), vI (0), vI (0)]⟩]) (by simp) (by simp) (by intro x hx; simp only [List.mem_cons, List.not_mem_nil, or_false] at hx; rcases hx with rfl | rfl | rfl <;> omega) (by decide) rfl rfl
  have k := runK (E := E) (Y := Y) (k := 100) (H := []) 5 (c := F48B) (fr := sp 242 [(1, vI 1), (0, .imm s [.imm s0 [vI a, vI b, vI c] 3, .imm s1 [vI d, vI e, vI f] 3, .imm s2 [vI g, vI h, vI i] 3] 3)]) (fr' := sp 242 [(8, .sl 3 0 1 0 3 none), (4, .ptr 0 0 0), (1, vI 1)]) (H' := [⟨0, [.nils, vI 0]⟩, ⟨0, [vI 0]⟩, ⟨0, [vI 0]⟩, ⟨0, [vI (1), vI (0), vI (0)]⟩]) (by kernel_rfl)
  rw [call48 rfl, k]
  exact h1

theorem c48_3_2 {s s0 s1 s2 : Bool} {a b c d e f g h i : Int} (ha : -20 ≤ a ∧ a ≤ 20) (hb : -20 ≤ b ∧ b ≤ 20) (hc : -20 ≤ c ∧ c ≤ 20) (hd : -20 ≤ d ∧ d ≤ 20) (he : -20 ≤ e ∧ e ≤ 20) (hf : -20 ≤ f ∧ f ≤ 20) (hg : -20 ≤ g ∧ g ≤ 20) (hh : -20 ≤ h ∧ h ≤ 20) (hi : -20 ≤ i ∧ i ≤ 20) :
    freeX H (callL E Y 48 [.imm s [.imm s0 [vI a, vI b, vI c] 3, .imm s1 [vI d, vI e, vI f] 3, .imm s2 [vI g, vI h, vI i] 3] 3, vI 2] []) = some (resP [0, 1, 0] 2, H) := by
  have h1 := T48_2 (Y := Y) (H := H) (l := [0, 1, 0]) (set := 2) (id := 3) (H0 := [⟨0, [.nils, vI 0]⟩, ⟨0, [vI 1]⟩, ⟨0, [vI 1]⟩, ⟨0, [vI (0), vI (1), vI (0)]⟩]) (by simp) (by simp) (by intro x hx; simp only [List.mem_cons, List.not_mem_nil, or_false] at hx; rcases hx with rfl | rfl | rfl <;> omega) (by decide) rfl rfl
  have k := runK (E := E) (Y := Y) (k := 100) (H := []) 5 (c := F48B) (fr := sp 242 [(1, vI 2), (0, .imm s [.imm s0 [vI a, vI b, vI c] 3, .imm s1 [vI d, vI e, vI f] 3, .imm s2 [vI g, vI h, vI i] 3] 3)]) (fr' := sp 242 [(8, .sl 3 0 1 0 3 none), (4, .ptr 0 0 0), (1, vI 2)]) (H' := [⟨0, [.nils, vI 0]⟩, ⟨0, [vI 1]⟩, ⟨0, [vI 1]⟩, ⟨0, [vI (0), vI (1), vI (0)]⟩]) (by kernel_rfl)
  rw [call48 rfl, k]
  exact h1

theorem c48_3_3 {s s0 s1 s2 : Bool} {a b c d e f g h i : Int} (ha : -20 ≤ a ∧ a ≤ 20) (hb : -20 ≤ b ∧ b ≤ 20) (hc : -20 ≤ c ∧ c ≤ 20) (hd : -20 ≤ d ∧ d ≤ 20) (he : -20 ≤ e ∧ e ≤ 20) (hf : -20 ≤ f ∧ f ≤ 20) (hg : -20 ≤ g ∧ g ≤ 20) (hh : -20 ≤ h ∧ h ≤ 20) (hi : -20 ≤ i ∧ i ≤ 20) :
    freeX H (callL E Y 48 [.imm s [.imm s0 [vI a, vI b, vI c] 3, .imm s1 [vI d, vI e, vI f] 3, .imm s2 [vI g, vI h, vI i] 3] 3, vI 3] []) = some (resP [b - e, d - a, 0] 3, H) := by
  have w0 : IntKind.wrap .i64 (b - e) = b - e := wrap_id (by omega) (by omega)
  have w1 : IntKind.wrap .i64 (d - a) = d - a := wrap_id (by omega) (by omega)
  have h1 := T48_2 (Y := Y) (H := H) (l := [b - e, d - a, 0]) (set := 3) (id := 4) (H0 := [⟨0, [.nils, vI 0]⟩, ⟨0, [vI 0]⟩, ⟨1, [vI 0, vI 1]⟩, ⟨0, [vI 1]⟩, ⟨0, [vI (b - e), vI (d - a), vI (0)]⟩]) (by simp) (by simp) (by intro x hx; simp only [List.mem_cons, List.not_mem_nil, or_false] at hx; rcases hx with rfl | rfl | rfl <;> omega) (by decide) rfl rfl
  have k := runK (E := E) (Y := Y) (k := 100) (H := []) 5 (c := F48B) (fr := sp 242 [(1, vI 3), (0, .imm s [.imm s0 [vI a, vI b, vI c] 3, .imm s1 [vI d, vI e, vI f] 3, .imm s2 [vI g, vI h, vI i] 3] 3)]) (fr' := sp 242 [(8, .sl 4 0 1 0 3 none), (4, .ptr 0 0 0), (1, vI 3)]) (H' := [⟨0, [.nils, vI 0]⟩, ⟨0, [vI 0]⟩, ⟨1, [vI 0, vI 1]⟩, ⟨0, [vI 1]⟩, ⟨0, [vI ((IntKind.wrap .i64 (b - e))), vI ((IntKind.wrap .i64 (d - a))), vI (0)]⟩]) (by kernel_rfl)
  simp only [w0, w1] at k
  rw [call48 rfl, k]
  exact h1

theorem c48_3_4 {s s0 s1 s2 : Bool} {a b c d e f g h i : Int} (ha : -20 ≤ a ∧ a ≤ 20) (hb : -20 ≤ b ∧ b ≤ 20) (hc : -20 ≤ c ∧ c ≤ 20) (hd : -20 ≤ d ∧ d ≤ 20) (he : -20 ≤ e ∧ e ≤ 20) (hf : -20 ≤ f ∧ f ≤ 20) (hg : -20 ≤ g ∧ g ≤ 20) (hh : -20 ≤ h ∧ h ≤ 20) (hi : -20 ≤ i ∧ i ≤ 20) :
    freeX H (callL E Y 48 [.imm s [.imm s0 [vI a, vI b, vI c] 3, .imm s1 [vI d, vI e, vI f] 3, .imm s2 [vI g, vI h, vI i] 3] 3, vI 4] []) = some (resP [0, 0, 1] 4, H) := by
  have h1 := T48_2 (Y := Y) (H := H) (l := [0, 0, 1]) (set := 4) (id := 3) (H0 := [⟨0, [.nils, vI 0]⟩, ⟨0, [vI 2]⟩, ⟨0, [vI 2]⟩, ⟨0, [vI (0), vI (0), vI (1)]⟩]) (by simp) (by simp) (by intro x hx; simp only [List.mem_cons, List.not_mem_nil, or_false] at hx; rcases hx with rfl | rfl | rfl <;> omega) (by decide) rfl rfl
  have k := runK (E := E) (Y := Y) (k := 100) (H := []) 5 (c := F48B) (fr := sp 242 [(1, vI 4), (0, .imm s [.imm s0 [vI a, vI b, vI c] 3, .imm s1 [vI d, vI e, vI f] 3, .imm s2 [vI g, vI h, vI i] 3] 3)]) (fr' := sp 242 [(8, .sl 3 0 1 0 3 none), (4, .ptr 0 0 0), (1, vI 4)]) (H' := [⟨0, [.nils, vI 0]⟩, ⟨0, [vI 2]⟩, ⟨0, [vI 2]⟩, ⟨0, [vI (0), vI (0), vI (1)]⟩]) (by kernel_rfl)
  rw [call48 rfl, k]
  exact h1

theorem c48_3_5 {s s0 s1 s2 : Bool} {a b c d e f g h i : Int} (ha : -20 ≤ a ∧ a ≤ 20) (hb : -20 ≤ b ∧ b ≤ 20) (hc : -20 ≤ c ∧ c ≤ 20) (hd : -20 ≤ d ∧ d ≤ 20) (he : -20 ≤ e ∧ e ≤ 20) (hf : -20 ≤ f ∧ f ≤ 20) (hg : -20 ≤ g ∧ g ≤ 20) (hh : -20 ≤ h ∧ h ≤ 20) (hi : -20 ≤ i ∧ i ≤ 20) :
    freeX H (callL E Y 48 [.imm s [.imm s0 [vI a, vI b, vI c] 3, .imm s1 [vI d, vI e, vI f] 3, .imm s2 [vI g, vI h, vI i] 3] 3, vI 5] []) = some (resP [c - i, 0, g - a] 5, H) := by
  have w0 : IntKind.wrap .i64 (c - i) = c - i := wrap_id (by omega) (by omega)
  have w1 : IntKind.wrap .i64 (g - a) = g - a := wrap_id (by omega) (by omega)
  have h1 := T48_2 (Y := Y) (H := H) (l := [c - i, 0, g - a]) (set := 5) (id := 4) (H0 := [⟨0, [.nils, vI 0]⟩, ⟨0, [vI 0]⟩, ⟨1, [vI 0, vI 2]⟩, ⟨0, [vI 2]⟩, ⟨0, [vI (c - i), vI (0), vI (g - a)]⟩]) (by simp) (by simp) (by intro x hx; simp only [List.mem_cons, List.not_mem_nil, or_false] at hx; rcases hx with rfl | rfl | rfl <;> omega) (by decide) rfl rfl
  have k := runK (E := E) (Y := Y) (k := 100) (H := []) 5 (c := F48B) (fr := sp 242 [(1, vI 5), (0, .imm s [.imm s0 [vI a, vI b, vI c] 3, .imm s1 [vI d, vI e, vI f] 3, .imm s2 [vI g, vI h, vI i] 3] 3)]) (fr' := sp 242 [(8, .sl 4 0 1 0 3 none), (4, .ptr 0 0 0), (1, vI 5)]) (H' := [⟨0, [.nils, vI 0]⟩, ⟨0, [vI 0]⟩, ⟨1, [vI 0, vI 2]⟩, ⟨0, [vI 2]⟩, ⟨0, [vI ((IntKind.wrap .i64 (c - i))), vI (0), vI ((IntKind.wrap .i64 (g - a)))]⟩]) (by kernel_rfl)
  simp only [w0, w1] at k
  rw [call48 rfl, k]
  exact h1

theorem c48_3_6 {s s0 s1 s2 : Bool} {a b c d e f g h i : Int} (ha : -20 ≤ a ∧ a ≤ 20) (hb : -20 ≤ b ∧ b ≤ 20) (hc : -20 ≤ c ∧ c ≤ 20) (hd : -20 ≤ d ∧ d ≤ 20) (he : -20 ≤ e ∧ e ≤ 20) (hf : -20 ≤ f ∧ f ≤ 20) (hg : -20 ≤ g ∧ g ≤ 20) (hh : -20 ≤ h ∧ h ≤ 20) (hi : -20 ≤ i ∧ i ≤ 20) :
    freeX H (callL E Y 48 [.imm s [.imm s0 [vI a, vI b, vI c] 3, .imm s1 [vI d, vI e, vI f] 3, .imm s2 [vI g, vI h, vI i] 3] 3, vI 6] []) = some (resP [0, f - i, h - e] 6, H) := by
  have w0 : IntKind.wrap .i64 (f - i) = f - i := wrap_id (by omega) (by omega)
  have w1 : IntKind.wrap .i64 (h - e) = h - e := wrap_id (by omega) (by omega)
  have h1 := T48_2 (Y := Y) (H := H) (l := [0, f - i, h - e]) (set := 6) (id := 4) (H0 := [⟨0, [.nils, vI 0]⟩, ⟨0, [vI 1]⟩, ⟨1, [vI 1, vI 2]⟩, ⟨0, [vI 2]⟩, ⟨0, [vI (0), vI (f - i), vI (h - e)]⟩]) (by simp) (by simp) (by intro x hx; simp only [List.mem_cons, List.not_mem_nil, or_false] at hx; rcases hx with rfl | rfl | rfl <;> omega) (by decide) rfl rfl
  have k := runK (E := E) (Y := Y) (k := 100) (H := []) 5 (c := F48B) (fr := sp 242 [(1, vI 6), (0, .imm s [.imm s0 [vI a, vI b, vI c] 3, .imm s1 [vI d, vI e, vI f] 3, .imm s2 [vI g, vI h, vI i] 3] 3)]) (fr' := sp 242 [(8, .sl 4 0 1 0 3 none), (4, .ptr 0 0 0), (1, vI 6)]) (H' := [⟨0, [.nils, vI 0]⟩, ⟨0, [vI 1]⟩, ⟨1, [vI 1, vI 2]⟩, ⟨0, [vI 2]⟩, ⟨0, [vI (0), vI ((IntKind.wrap .i64 (f - i))), vI ((IntKind.wrap .i64 (h - e)))]⟩]) (by kernel_rfl)
  simp only [w0, w1] at k
  rw [call48 rfl, k]
  exact h1

theorem c48_3_7 {s s0 s1 s2 : Bool} {a b c d e f g h i : Int} (ha : -20 ≤ a ∧ a ≤ 20) (hb : -20 ≤ b ∧ b ≤ 20) (hc : -20 ≤ c ∧ c ≤ 20) (hd : -20 ≤ d ∧ d ≤ 20) (he : -20 ≤ e ∧ e ≤ 20) (hf : -20 ≤ f ∧ f ≤ 20) (hg : -20 ≤ g ∧ g ≤ 20) (hh : -20 ≤ h ∧ h ≤ 20) (hi : -20 ≤ i ∧ i ≤ 20) :
    freeX H (callL E Y 48 [.imm s [.imm s0 [vI a, vI b, vI c] 3, .imm s1 [vI d, vI e, vI f] 3, .imm s2 [vI g, vI h, vI i] 3] 3, vI 7] []) = some (resP [(b - e) * (c - i) - (c - f) * (b - h), (c - f) * (a - g) - (a - d) * (c - i), (a - d) * (b - h) - (b - e) * (a - g)] 7, H) := by
  have p0 := mulB (A := 40) (B := 40) (a := b - e) (b := c - i) (by omega) (by omega)
  have q0 := mulB (A := 40) (B := 40) (a := c - f) (b := b - h) (by omega) (by omega)
  have p1 := mulB (A := 40) (B := 40) (a := c - f) (b := a - g) (by omega) (by omega)
  have q1 := mulB (A := 40) (B := 40) (a := a - d) (b := c - i) (by omega) (by omega)
  have p2 := mulB (A := 40) (B := 40) (a := a - d) (b := b - h) (by omega) (by omega)
  have q2 := mulB (A := 40) (B := 40) (a := b - e) (b := a - g) (by omega) (by omega)
  have w0 : IntKind.wrap .i64 (b - e) = b - e := wrap_id (by omega) (by omega)
  have w1 : IntKind.wrap .i64 (c - i) = c - i := wrap_id (by omega) (by omega)
  have w2 : IntKind.wrap .i64 (c - f) = c - f := wrap_id (by omega) (by omega)
  have w3 : IntKind.wrap .i64 (b - h) = b - h := wrap_id (by omega) (by omega)
  have w4 : IntKind.wrap .i64 ((b - e) * (c - i)) = (b - e) * (c - i) := wrap_id (by omega) (by omega)
  have w5 : IntKind.wrap .i64 ((c - f) * (b - h)) = (c - f) * (b - h) := wrap_id (by omega) (by omega)
  have w6 : IntKind.wrap .i64 ((b - e) * (c - i) - (c - f) * (b - h)) = (b - e) * (c - i) - (c - f) * (b - h) := wrap_id (by omega) (by omega)
  have w7 : IntKind.wrap .i64 (a - g) = a - g := wrap_id (by omega) (by omega)
  have w8 : IntKind.wrap .i64 (a - d) = a - d := wrap_id (by omega) (by omega)
  have w9 : IntKind.wrap .i64 ((c - f) * (a - g)) = (c - f) * (a - g) := wrap_id (by omega) (by omega)
  have w10 : IntKind.wrap .i64 ((a - d) * (c - i)) = (a - d) * (c - i) := wrap_id (by omega) (by omega)
  have w11 : IntKind.wrap .i64 ((c - f) * (a - g) - (a - d) * (c - i)) = (c - f) * (a - g) - (a - d) * (c - i) := wrap_id (by omega) (by omega)
  have w12 : IntKind.wrap .i64 ((a - d) * (b - h)) = (a - d) * (b - h) := wrap_id (by omega) (by omega)
  have w13 : IntKind.wrap .i64 ((b - e) * (a - g)) = (b - e) * (a - g) := wrap_id (by omega) (by omega)
  have w14 : IntKind.wrap .i64 ((a - d) * (b - h) - (b - e) * (a - g)) = (a - d) * (b - h) - (b - e) * (a - g) := wrap_id (by omega) (by omega)
  have h1 := T48_2 (Y := Y) (H := H) (l := [(b - e) * (c - i) - (c - f) * (b - h), (c - f) * (a - g) - (a - d) * (c - i), (a - d) * (b - h) - (b - e) * (a - g)]) (set := 7) (id := 5) (H0 := [⟨0, [.nils, vI 0]⟩, ⟨0, [vI 0]⟩, ⟨2, [vI 0, vI 1, vI 2]⟩, ⟨0, [vI 1]⟩, ⟨0, [vI 2]⟩, ⟨0, [vI ((b - e) * (c - i) - (c - f) * (b - h)), vI ((c - f) * (a - g) - (a - d) * (c - i)), vI ((a - d) * (b - h) - (b - e) * (a - g))]⟩]) (by simp) (by simp) (by intro x hx; simp only [List.mem_cons, List.not_mem_nil, or_false] at hx; rcases hx with rfl | rfl | rfl <;> omega) (by decide) rfl rfl
  have k := runK (E := E) (Y := Y) (k := 100) (H := []) 5 (c := F48B) (fr := sp 242 [(1, vI 7), (0, .imm s [.imm s0 [vI a, vI b, vI c] 3, .imm s1 [vI d, vI e, vI f] 3, .imm s2 [vI g, vI h, vI i] 3] 3)]) (fr' := sp 242 [(8, .sl 5 0 1 0 3 none), (4, .ptr 0 0 0), (1, vI 7)]) (H' := [⟨0, [.nils, vI 0]⟩, ⟨0, [vI 0]⟩, ⟨2, [vI 0, vI 1, vI 2]⟩, ⟨0, [vI 1]⟩, ⟨0, [vI 2]⟩, ⟨0, [vI ((IntKind.wrap .i64 ((IntKind.wrap .i64 ((IntKind.wrap .i64 (b - e)) * (IntKind.wrap .i64 (c - i)))) - (IntKind.wrap .i64 ((IntKind.wrap .i64 (c - f)) * (IntKind.wrap .i64 (b - h))))))), vI ((IntKind.wrap .i64 ((IntKind.wrap .i64 ((IntKind.wrap .i64 (c - f)) * (IntKind.wrap .i64 (a - g)))) - (IntKind.wrap .i64 ((IntKind.wrap .i64 (a - d)) * (IntKind.wrap .i64 (c - i))))))), vI ((IntKind.wrap .i64 ((IntKind.wrap .i64 ((IntKind.wrap .i64 (a - d)) * (IntKind.wrap .i64 (b - h)))) - (IntKind.wrap .i64 ((IntKind.wrap .i64 (b - e)) * (IntKind.wrap .i64 (a - g)))))))]⟩]) (by kernel_rfl)
  simp only [w0, w1, w2, w3, w4, w5, w6, w7, w8, w9, w10, w11, w12, w13, w14] at k
  rw [call48 rfl, k]
  exact h1

end
end Go.X
