/-
  No cell of these rows narrows 'for every input' (looked for: loops, veiled, ifaces, maps, wideKeys, modest, calm, conditions, laid).
  DERIVED. THE GIVEN ROWS OF THIS SEAT. 12 by the template 'for every input the law returns true; each argument reads behind the call as it read before'; 0 by the template 'total and deterministic' (their statements: YtmedpfjiidlidaaTotals.lean).
  GIVEN WITH THE SEED: the statements are not yours to turn. If you find one false, say at which input.
  Laid BY PROGRAM, IN A SANDBOX (cutbox-rows.mjs): the forced cells as the released guide's own fill.sh prints them over the translation 83cde21b6742bf86… (all of the seat's roots in one cut). By AI agents, Wed Nov 11 2026. No macro, syntax, notation, axiom, sorry.
-/
import Derived.Test.YtmedpfjiidlidaaChecked
import GoSem.Claim
import GoSem.ClaimJoined
import GoSem.ClaimMapViews
import Derived.JoinedTies
import Derived.KernelRfl
namespace Go.Proofs.Ytmedpfjiidlidaa
/- THE CELL 'sum', in the pinned program and in every row, IS THE sha256 OF THE DUMP (.gsa) THAT YtmedpfjiidlidaaProg.lean LOADS. Nothing in Lean hashes anything: it is a label: what it is worth is what the hold of that sum in a sandbox is worth. -/
noncomputable def Try.pinned : Pinned := { name := "ytmedpfjiidlidaa", sum := "83cde21b6742bf86812e2e9a6df451bdb1d63f7b5c78299d76d855ddb72cc522", checked := Try.checked }
namespace Rows
def none {H : Type} : Left H := { results := [], args := [] }

/-- 'clochelaw06.FitsLasting': WHATEVER THE INPUT: true; the input reads as it did. -/
def fitsLastingSpec : ChangeSpec := { name := "fitsLasting", fn := fun _ => fun
  | [d] => { results := [.lit (.bool true)], args := [d] }
  | _ => none }
def fitsLastingRow : OpenClaim := { program := "ytmedpfjiidlidaa", sum := "83cde21b6742bf86812e2e9a6df451bdb1d63f7b5c78299d76d855ddb72cc522", func := "cloche/clochelaw06.FitsLasting", spec := "fitsLasting", unfollowed := true, recurses := true, apart := false }
def FitsLastingSaid : Prop := fitsLastingRow.holds Try.pinned (OpenSpec.ofChange fitsLastingSpec)

/-- ITS FALSE NEIGHBOUR: 'it returns false'. Refute it at one input. -/
def fitsLastingWrong : ChangeSpec := { name := "fitsLasting", fn := fun _ => fun
  | [d] => { results := [.lit (.bool false)], args := [d] }
  | _ => none }
def FitsLastingWrongFalsely : Prop := fitsLastingRow.holds Try.pinned (OpenSpec.ofChange fitsLastingWrong)

/-- 'clochelaw06.FitsGains': WHATEVER THE INPUT: true; the input reads as it did. -/
def fitsGainsSpec : ChangeSpec := { name := "fitsGains", fn := fun _ => fun
  | [d1, d2, d3, d4] => { results := [.lit (.bool true)], args := [d1, d2, d3, d4] }
  | _ => none }
def fitsGainsRow : OpenClaim := { program := "ytmedpfjiidlidaa", sum := "83cde21b6742bf86812e2e9a6df451bdb1d63f7b5c78299d76d855ddb72cc522", func := "cloche/clochelaw06.FitsGains", spec := "fitsGains", unfollowed := true, recurses := true, apart := false }
def FitsGainsSaid : Prop := fitsGainsRow.holds Try.pinned (OpenSpec.ofChange fitsGainsSpec)

/-- ITS FALSE NEIGHBOUR: 'it returns false'. Refute it at one input. -/
def fitsGainsWrong : ChangeSpec := { name := "fitsGains", fn := fun _ => fun
  | [d1, d2, d3, d4] => { results := [.lit (.bool false)], args := [d1, d2, d3, d4] }
  | _ => none }
def FitsGainsWrongFalsely : Prop := fitsGainsRow.holds Try.pinned (OpenSpec.ofChange fitsGainsWrong)

/-- 'clochelaw06.FitsRests': WHATEVER THE INPUT: true; the input reads as it did. -/
def fitsRestsSpec : ChangeSpec := { name := "fitsRests", fn := fun _ => fun
  | [d1, d2, d3] => { results := [.lit (.bool true)], args := [d1, d2, d3] }
  | _ => none }
def fitsRestsRow : OpenClaim := { program := "ytmedpfjiidlidaa", sum := "83cde21b6742bf86812e2e9a6df451bdb1d63f7b5c78299d76d855ddb72cc522", func := "cloche/clochelaw06.FitsRests", spec := "fitsRests", unfollowed := true, recurses := true, apart := false }
def FitsRestsSaid : Prop := fitsRestsRow.holds Try.pinned (OpenSpec.ofChange fitsRestsSpec)

/-- ITS FALSE NEIGHBOUR: 'it returns false'. Refute it at one input. -/
def fitsRestsWrong : ChangeSpec := { name := "fitsRests", fn := fun _ => fun
  | [d1, d2, d3] => { results := [.lit (.bool false)], args := [d1, d2, d3] }
  | _ => none }
def FitsRestsWrongFalsely : Prop := fitsRestsRow.holds Try.pinned (OpenSpec.ofChange fitsRestsWrong)

/-- 'clochelaw06.FitsRest': WHATEVER THE INPUT: true; the input reads as it did. -/
def fitsRestSpec : ChangeSpec := { name := "fitsRest", fn := fun _ => fun
  | [d1, d2, d3] => { results := [.lit (.bool true)], args := [d1, d2, d3] }
  | _ => none }
def fitsRestRow : OpenClaim := { program := "ytmedpfjiidlidaa", sum := "83cde21b6742bf86812e2e9a6df451bdb1d63f7b5c78299d76d855ddb72cc522", func := "cloche/clochelaw06.FitsRest", spec := "fitsRest", unfollowed := true, recurses := true, apart := false }
def FitsRestSaid : Prop := fitsRestRow.holds Try.pinned (OpenSpec.ofChange fitsRestSpec)

/-- ITS FALSE NEIGHBOUR: 'it returns false'. Refute it at one input. -/
def fitsRestWrong : ChangeSpec := { name := "fitsRest", fn := fun _ => fun
  | [d1, d2, d3] => { results := [.lit (.bool false)], args := [d1, d2, d3] }
  | _ => none }
def FitsRestWrongFalsely : Prop := fitsRestRow.holds Try.pinned (OpenSpec.ofChange fitsRestWrong)

/-- 'clochelaw06.FitsHaigh': WHATEVER THE INPUT: true; the input reads as it did. -/
def fitsHaighSpec : ChangeSpec := { name := "fitsHaigh", fn := fun _ => fun
  | [d1, d2] => { results := [.lit (.bool true)], args := [d1, d2] }
  | _ => none }
def fitsHaighRow : OpenClaim := { program := "ytmedpfjiidlidaa", sum := "83cde21b6742bf86812e2e9a6df451bdb1d63f7b5c78299d76d855ddb72cc522", func := "cloche/clochelaw06.FitsHaigh", spec := "fitsHaigh", unfollowed := true, recurses := true, apart := false }
def FitsHaighSaid : Prop := fitsHaighRow.holds Try.pinned (OpenSpec.ofChange fitsHaighSpec)

/-- ITS FALSE NEIGHBOUR: 'it returns false'. Refute it at one input. -/
def fitsHaighWrong : ChangeSpec := { name := "fitsHaigh", fn := fun _ => fun
  | [d1, d2] => { results := [.lit (.bool false)], args := [d1, d2] }
  | _ => none }
def FitsHaighWrongFalsely : Prop := fitsHaighRow.holds Try.pinned (OpenSpec.ofChange fitsHaighWrong)

/-- 'clochelaw06.FitsBishop': WHATEVER THE INPUT: true; the input reads as it did. -/
def fitsBishopSpec : ChangeSpec := { name := "fitsBishop", fn := fun _ => fun
  | [d1, d2] => { results := [.lit (.bool true)], args := [d1, d2] }
  | _ => none }
def fitsBishopRow : OpenClaim := { program := "ytmedpfjiidlidaa", sum := "83cde21b6742bf86812e2e9a6df451bdb1d63f7b5c78299d76d855ddb72cc522", func := "cloche/clochelaw06.FitsBishop", spec := "fitsBishop", unfollowed := true, recurses := true, apart := false }
def FitsBishopSaid : Prop := fitsBishopRow.holds Try.pinned (OpenSpec.ofChange fitsBishopSpec)

/-- ITS FALSE NEIGHBOUR: 'it returns false'. Refute it at one input. -/
def fitsBishopWrong : ChangeSpec := { name := "fitsBishop", fn := fun _ => fun
  | [d1, d2] => { results := [.lit (.bool false)], args := [d1, d2] }
  | _ => none }
def FitsBishopWrongFalsely : Prop := fitsBishopRow.holds Try.pinned (OpenSpec.ofChange fitsBishopWrong)

/-- 'clochelaw06.FitsRings': WHATEVER THE INPUT: true; the input reads as it did. -/
def fitsRingsSpec : ChangeSpec := { name := "fitsRings", fn := fun _ => fun
  | [d1, d2] => { results := [.lit (.bool true)], args := [d1, d2] }
  | _ => none }
def fitsRingsRow : OpenClaim := { program := "ytmedpfjiidlidaa", sum := "83cde21b6742bf86812e2e9a6df451bdb1d63f7b5c78299d76d855ddb72cc522", func := "cloche/clochelaw06.FitsRings", spec := "fitsRings", unfollowed := true, recurses := true, apart := false }
def FitsRingsSaid : Prop := fitsRingsRow.holds Try.pinned (OpenSpec.ofChange fitsRingsSpec)

/-- ITS FALSE NEIGHBOUR: 'it returns false'. Refute it at one input. -/
def fitsRingsWrong : ChangeSpec := { name := "fitsRings", fn := fun _ => fun
  | [d1, d2] => { results := [.lit (.bool false)], args := [d1, d2] }
  | _ => none }
def FitsRingsWrongFalsely : Prop := fitsRingsRow.holds Try.pinned (OpenSpec.ofChange fitsRingsWrong)

/-- 'clochelaw06.FitsLimits': WHATEVER THE INPUT: true; the input reads as it did. -/
def fitsLimitsSpec : ChangeSpec := { name := "fitsLimits", fn := fun _ => fun
  | [d1, d2, d3] => { results := [.lit (.bool true)], args := [d1, d2, d3] }
  | _ => none }
def fitsLimitsRow : OpenClaim := { program := "ytmedpfjiidlidaa", sum := "83cde21b6742bf86812e2e9a6df451bdb1d63f7b5c78299d76d855ddb72cc522", func := "cloche/clochelaw06.FitsLimits", spec := "fitsLimits", unfollowed := true, recurses := true, apart := false }
def FitsLimitsSaid : Prop := fitsLimitsRow.holds Try.pinned (OpenSpec.ofChange fitsLimitsSpec)

/-- ITS FALSE NEIGHBOUR: 'it returns false'. Refute it at one input. -/
def fitsLimitsWrong : ChangeSpec := { name := "fitsLimits", fn := fun _ => fun
  | [d1, d2, d3] => { results := [.lit (.bool false)], args := [d1, d2, d3] }
  | _ => none }
def FitsLimitsWrongFalsely : Prop := fitsLimitsRow.holds Try.pinned (OpenSpec.ofChange fitsLimitsWrong)

/-- 'clochelaw06.FitsAlone': WHATEVER THE INPUT: true; the input reads as it did. -/
def fitsAloneSpec : ChangeSpec := { name := "fitsAlone", fn := fun _ => fun
  | [d] => { results := [.lit (.bool true)], args := [d] }
  | _ => none }
def fitsAloneRow : OpenClaim := { program := "ytmedpfjiidlidaa", sum := "83cde21b6742bf86812e2e9a6df451bdb1d63f7b5c78299d76d855ddb72cc522", func := "cloche/clochelaw06.FitsAlone", spec := "fitsAlone", unfollowed := true, recurses := true, apart := false }
def FitsAloneSaid : Prop := fitsAloneRow.holds Try.pinned (OpenSpec.ofChange fitsAloneSpec)

/-- ITS FALSE NEIGHBOUR: 'it returns false'. Refute it at one input. -/
def fitsAloneWrong : ChangeSpec := { name := "fitsAlone", fn := fun _ => fun
  | [d] => { results := [.lit (.bool false)], args := [d] }
  | _ => none }
def FitsAloneWrongFalsely : Prop := fitsAloneRow.holds Try.pinned (OpenSpec.ofChange fitsAloneWrong)

/-- 'clochelaw06.FitsShifts': WHATEVER THE INPUT: true; the input reads as it did. -/
def fitsShiftsSpec : ChangeSpec := { name := "fitsShifts", fn := fun _ => fun
  | [d1, d2, d3, d4] => { results := [.lit (.bool true)], args := [d1, d2, d3, d4] }
  | _ => none }
def fitsShiftsRow : OpenClaim := { program := "ytmedpfjiidlidaa", sum := "83cde21b6742bf86812e2e9a6df451bdb1d63f7b5c78299d76d855ddb72cc522", func := "cloche/clochelaw06.FitsShifts", spec := "fitsShifts", unfollowed := true, recurses := true, apart := false }
def FitsShiftsSaid : Prop := fitsShiftsRow.holds Try.pinned (OpenSpec.ofChange fitsShiftsSpec)

/-- ITS FALSE NEIGHBOUR: 'it returns false'. Refute it at one input. -/
def fitsShiftsWrong : ChangeSpec := { name := "fitsShifts", fn := fun _ => fun
  | [d1, d2, d3, d4] => { results := [.lit (.bool false)], args := [d1, d2, d3, d4] }
  | _ => none }
def FitsShiftsWrongFalsely : Prop := fitsShiftsRow.holds Try.pinned (OpenSpec.ofChange fitsShiftsWrong)

/-- 'clochelaw06.FitsOthers': WHATEVER THE INPUT: true; the input reads as it did. -/
def fitsOthersSpec : ChangeSpec := { name := "fitsOthers", fn := fun _ => fun
  | [d1, d2, d3] => { results := [.lit (.bool true)], args := [d1, d2, d3] }
  | _ => none }
def fitsOthersRow : OpenClaim := { program := "ytmedpfjiidlidaa", sum := "83cde21b6742bf86812e2e9a6df451bdb1d63f7b5c78299d76d855ddb72cc522", func := "cloche/clochelaw06.FitsOthers", spec := "fitsOthers", unfollowed := true, recurses := true, apart := false }
def FitsOthersSaid : Prop := fitsOthersRow.holds Try.pinned (OpenSpec.ofChange fitsOthersSpec)

/-- ITS FALSE NEIGHBOUR: 'it returns false'. Refute it at one input. -/
def fitsOthersWrong : ChangeSpec := { name := "fitsOthers", fn := fun _ => fun
  | [d1, d2, d3] => { results := [.lit (.bool false)], args := [d1, d2, d3] }
  | _ => none }
def FitsOthersWrongFalsely : Prop := fitsOthersRow.holds Try.pinned (OpenSpec.ofChange fitsOthersWrong)

/-- 'clochelaw06.FitsShifted': WHATEVER THE INPUT: true; the input reads as it did. -/
def fitsShiftedSpec : ChangeSpec := { name := "fitsShifted", fn := fun _ => fun
  | [d1, d2, d3, d4, d5, d6] => { results := [.lit (.bool true)], args := [d1, d2, d3, d4, d5, d6] }
  | _ => none }
def fitsShiftedRow : OpenClaim := { program := "ytmedpfjiidlidaa", sum := "83cde21b6742bf86812e2e9a6df451bdb1d63f7b5c78299d76d855ddb72cc522", func := "cloche/clochelaw06.FitsShifted", spec := "fitsShifted", unfollowed := true, recurses := true, apart := false }
def FitsShiftedSaid : Prop := fitsShiftedRow.holds Try.pinned (OpenSpec.ofChange fitsShiftedSpec)

/-- ITS FALSE NEIGHBOUR: 'it returns false'. Refute it at one input. -/
def fitsShiftedWrong : ChangeSpec := { name := "fitsShifted", fn := fun _ => fun
  | [d1, d2, d3, d4, d5, d6] => { results := [.lit (.bool false)], args := [d1, d2, d3, d4, d5, d6] }
  | _ => none }
def FitsShiftedWrongFalsely : Prop := fitsShiftedRow.holds Try.pinned (OpenSpec.ofChange fitsShiftedWrong)

/- THE SECOND FORM. 'bulk': how many values and letters a reading holds, each counted each time it is reached (what is shared counts as often as it is met; a slice's spare places count too). A statement '..UptoSaid' is the law's where the arguments, and the package variables that the reading takes, are together of bulk at most 1048576: NARROWER than '..Said'. Prove '..Said' where nothing that the law and all that it calls make is longer than what came in: it says more and counts as full. Else prove '..UptoSaid'. A law counts once. -/
mutual
def uptoBulk {H : Type} : DataW H → Nat
  | .lit (.string bytes) => bytes.length + 1
  | .lit _ => 1
  | .nil => 1
  | .ptr d => uptoBulk d + 1
  | .slice elems spare => uptoBulkAll elems + uptoBulkAll spare + 1
  | .agg parts => uptoBulkAll parts + 1
  | .iface _ d => uptoBulk d + 1
  | .map entries => uptoBulkEntries entries + 1
  | .held _ => 1
def uptoBulkAll {H : Type} : List (DataW H) → Nat
  | [] => 0
  | d :: r => uptoBulk d + uptoBulkAll r
def uptoBulkEntries {H : Type} : List (Lit × DataW H) → Nat
  | [] => 0
  | x :: r => uptoBulkEntry x + uptoBulkEntries r
def uptoBulkEntry {H : Type} : Lit × DataW H → Nat
  | (.string bytes, d) => bytes.length + uptoBulk d + 1
  | (_, d) => uptoBulk d + 1
 end
def uptoSmall : (H : Type) → List (DataW H) → Bool := fun _ ds => decide (uptoBulkAll ds ≤ 1048576)
def OpenSpec.upto (s : _root_.Go.ChangeSpec) : _root_.Go.OpenSpec := { _root_.Go.OpenSpec.ofChange s with cond := some uptoSmall }

/-- 'clochelaw06.FitsLasting', WHERE WHAT IT READS IS OF BULK AT MOST 1048576: true; the input reads as it did. -/
def fitsLastingUptoRow : OpenClaim := { program := "ytmedpfjiidlidaa", sum := "83cde21b6742bf86812e2e9a6df451bdb1d63f7b5c78299d76d855ddb72cc522", func := "cloche/clochelaw06.FitsLasting", spec := "fitsLasting", unfollowed := true, recurses := true, apart := false, narrowed := true }
def FitsLastingUptoSaid : Prop := fitsLastingUptoRow.holds Try.pinned (OpenSpec.upto fitsLastingSpec)

/-- 'clochelaw06.FitsGains', WHERE WHAT IT READS IS OF BULK AT MOST 1048576: true; the input reads as it did. -/
def fitsGainsUptoRow : OpenClaim := { program := "ytmedpfjiidlidaa", sum := "83cde21b6742bf86812e2e9a6df451bdb1d63f7b5c78299d76d855ddb72cc522", func := "cloche/clochelaw06.FitsGains", spec := "fitsGains", unfollowed := true, recurses := true, apart := false, narrowed := true }
def FitsGainsUptoSaid : Prop := fitsGainsUptoRow.holds Try.pinned (OpenSpec.upto fitsGainsSpec)

/-- 'clochelaw06.FitsRests', WHERE WHAT IT READS IS OF BULK AT MOST 1048576: true; the input reads as it did. -/
def fitsRestsUptoRow : OpenClaim := { program := "ytmedpfjiidlidaa", sum := "83cde21b6742bf86812e2e9a6df451bdb1d63f7b5c78299d76d855ddb72cc522", func := "cloche/clochelaw06.FitsRests", spec := "fitsRests", unfollowed := true, recurses := true, apart := false, narrowed := true }
def FitsRestsUptoSaid : Prop := fitsRestsUptoRow.holds Try.pinned (OpenSpec.upto fitsRestsSpec)

/-- 'clochelaw06.FitsRest', WHERE WHAT IT READS IS OF BULK AT MOST 1048576: true; the input reads as it did. -/
def fitsRestUptoRow : OpenClaim := { program := "ytmedpfjiidlidaa", sum := "83cde21b6742bf86812e2e9a6df451bdb1d63f7b5c78299d76d855ddb72cc522", func := "cloche/clochelaw06.FitsRest", spec := "fitsRest", unfollowed := true, recurses := true, apart := false, narrowed := true }
def FitsRestUptoSaid : Prop := fitsRestUptoRow.holds Try.pinned (OpenSpec.upto fitsRestSpec)

/-- 'clochelaw06.FitsHaigh', WHERE WHAT IT READS IS OF BULK AT MOST 1048576: true; the input reads as it did. -/
def fitsHaighUptoRow : OpenClaim := { program := "ytmedpfjiidlidaa", sum := "83cde21b6742bf86812e2e9a6df451bdb1d63f7b5c78299d76d855ddb72cc522", func := "cloche/clochelaw06.FitsHaigh", spec := "fitsHaigh", unfollowed := true, recurses := true, apart := false, narrowed := true }
def FitsHaighUptoSaid : Prop := fitsHaighUptoRow.holds Try.pinned (OpenSpec.upto fitsHaighSpec)

/-- 'clochelaw06.FitsBishop', WHERE WHAT IT READS IS OF BULK AT MOST 1048576: true; the input reads as it did. -/
def fitsBishopUptoRow : OpenClaim := { program := "ytmedpfjiidlidaa", sum := "83cde21b6742bf86812e2e9a6df451bdb1d63f7b5c78299d76d855ddb72cc522", func := "cloche/clochelaw06.FitsBishop", spec := "fitsBishop", unfollowed := true, recurses := true, apart := false, narrowed := true }
def FitsBishopUptoSaid : Prop := fitsBishopUptoRow.holds Try.pinned (OpenSpec.upto fitsBishopSpec)

/-- 'clochelaw06.FitsRings', WHERE WHAT IT READS IS OF BULK AT MOST 1048576: true; the input reads as it did. -/
def fitsRingsUptoRow : OpenClaim := { program := "ytmedpfjiidlidaa", sum := "83cde21b6742bf86812e2e9a6df451bdb1d63f7b5c78299d76d855ddb72cc522", func := "cloche/clochelaw06.FitsRings", spec := "fitsRings", unfollowed := true, recurses := true, apart := false, narrowed := true }
def FitsRingsUptoSaid : Prop := fitsRingsUptoRow.holds Try.pinned (OpenSpec.upto fitsRingsSpec)

/-- 'clochelaw06.FitsLimits', WHERE WHAT IT READS IS OF BULK AT MOST 1048576: true; the input reads as it did. -/
def fitsLimitsUptoRow : OpenClaim := { program := "ytmedpfjiidlidaa", sum := "83cde21b6742bf86812e2e9a6df451bdb1d63f7b5c78299d76d855ddb72cc522", func := "cloche/clochelaw06.FitsLimits", spec := "fitsLimits", unfollowed := true, recurses := true, apart := false, narrowed := true }
def FitsLimitsUptoSaid : Prop := fitsLimitsUptoRow.holds Try.pinned (OpenSpec.upto fitsLimitsSpec)

/-- 'clochelaw06.FitsAlone', WHERE WHAT IT READS IS OF BULK AT MOST 1048576: true; the input reads as it did. -/
def fitsAloneUptoRow : OpenClaim := { program := "ytmedpfjiidlidaa", sum := "83cde21b6742bf86812e2e9a6df451bdb1d63f7b5c78299d76d855ddb72cc522", func := "cloche/clochelaw06.FitsAlone", spec := "fitsAlone", unfollowed := true, recurses := true, apart := false, narrowed := true }
def FitsAloneUptoSaid : Prop := fitsAloneUptoRow.holds Try.pinned (OpenSpec.upto fitsAloneSpec)

/-- 'clochelaw06.FitsShifts', WHERE WHAT IT READS IS OF BULK AT MOST 1048576: true; the input reads as it did. -/
def fitsShiftsUptoRow : OpenClaim := { program := "ytmedpfjiidlidaa", sum := "83cde21b6742bf86812e2e9a6df451bdb1d63f7b5c78299d76d855ddb72cc522", func := "cloche/clochelaw06.FitsShifts", spec := "fitsShifts", unfollowed := true, recurses := true, apart := false, narrowed := true }
def FitsShiftsUptoSaid : Prop := fitsShiftsUptoRow.holds Try.pinned (OpenSpec.upto fitsShiftsSpec)

/-- 'clochelaw06.FitsOthers', WHERE WHAT IT READS IS OF BULK AT MOST 1048576: true; the input reads as it did. -/
def fitsOthersUptoRow : OpenClaim := { program := "ytmedpfjiidlidaa", sum := "83cde21b6742bf86812e2e9a6df451bdb1d63f7b5c78299d76d855ddb72cc522", func := "cloche/clochelaw06.FitsOthers", spec := "fitsOthers", unfollowed := true, recurses := true, apart := false, narrowed := true }
def FitsOthersUptoSaid : Prop := fitsOthersUptoRow.holds Try.pinned (OpenSpec.upto fitsOthersSpec)

/-- 'clochelaw06.FitsShifted', WHERE WHAT IT READS IS OF BULK AT MOST 1048576: true; the input reads as it did. -/
def fitsShiftedUptoRow : OpenClaim := { program := "ytmedpfjiidlidaa", sum := "83cde21b6742bf86812e2e9a6df451bdb1d63f7b5c78299d76d855ddb72cc522", func := "cloche/clochelaw06.FitsShifted", spec := "fitsShifted", unfollowed := true, recurses := true, apart := false, narrowed := true }
def FitsShiftedUptoSaid : Prop := fitsShiftedUptoRow.holds Try.pinned (OpenSpec.upto fitsShiftedSpec)

end Rows
end Go.Proofs.Ytmedpfjiidlidaa
