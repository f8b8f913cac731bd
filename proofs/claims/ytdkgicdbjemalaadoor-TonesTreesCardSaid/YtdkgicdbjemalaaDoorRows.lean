/-
  NARROWER THAN 'FOR EVERY INPUT', by the rows' own cells (each row's printed sentence says how): TonesAlike: laid · TonesSachs: laid · TonesReal: laid · TonesPolynomials: laid · TonesWires: laid · TonesZeros: laid · TonesParted: laid · TonesKnots: laid · TonesTrees: laid · TonesFigures: laid · TonesWalked: laid · TonesRenumbered: laid · TonesCuts: laid.
  DERIVED. THE GIVEN ROWS OF THIS SEAT. 13 by the template 'for every input the law returns true; each argument reads behind the call as it read before'; 0 by the template 'total and deterministic' (their statements: YtdkgicdbjemalaaDoorTotals.lean).
  GIVEN WITH THE SEED: the statements are not yours to turn. If you find one false, say at which input.
  Laid BY PROGRAM, IN A SANDBOX (cutbox-rows.mjs): the forced cells as the released guide's own fill.sh prints them over the translation 022820794b96c53e… (all of the seat's roots in one cut). By AI agents, Wed Nov 11 2026. No macro, syntax, notation, axiom, sorry.
-/
import Derived.Test.YtdkgicdbjemalaaDoorChecked
import GoSem.Claim
import GoSem.ClaimJoined
import GoSem.ClaimMapViews
import Derived.JoinedTies
import Derived.KernelRfl
namespace Go.Proofs.YtdkgicdbjemalaaDoor
/- THE CELL 'sum', in the pinned program and in every row, IS THE sha256 OF THE DUMP (.gsa) THAT YtdkgicdbjemalaaDoorProg.lean LOADS. Nothing in Lean hashes anything: it is a label: what it is worth is what the hold of that sum in a sandbox is worth. -/
noncomputable def Tryd.pinned : Pinned := { name := "ytdkgicdbjemalaadoor", sum := "022820794b96c53e92961f3ce7522f5430640216cd1fef47a3cd7c800f88075e", checked := Tryd.checked }
namespace Rows
def none {H : Type} : Left H := { results := [], args := [] }

/- WHAT THE LISTED PACKAGE-LEVEL VARIABLES READ AS WHEN THE CALL BEGINS. Each datum BY PROGRAM (the guide's laid-datum.mjs) off the statement by which the dump's own 'gosem.cut.vars' lays the variable. In a bare row this is a premise. The card (YtdkgicdbjemalaaDoorCards.lean) ties it to the program's text. -/
def laid_math_bits_deBruijn32tab {H : Type} : DataW H := .agg [.lit (.int .u8 0), .lit (.int .u8 1), .lit (.int .u8 28), .lit (.int .u8 2), .lit (.int .u8 29), .lit (.int .u8 14), .lit (.int .u8 24), .lit (.int .u8 3), .lit (.int .u8 30), .lit (.int .u8 22), .lit (.int .u8 20), .lit (.int .u8 15), .lit (.int .u8 25), .lit (.int .u8 17), .lit (.int .u8 4), .lit (.int .u8 8), .lit (.int .u8 31), .lit (.int .u8 27), .lit (.int .u8 13), .lit (.int .u8 23), .lit (.int .u8 21), .lit (.int .u8 19), .lit (.int .u8 16), .lit (.int .u8 7), .lit (.int .u8 26), .lit (.int .u8 12), .lit (.int .u8 18), .lit (.int .u8 6), .lit (.int .u8 11), .lit (.int .u8 5), .lit (.int .u8 10), .lit (.int .u8 9)]
def laid_math_bits_deBruijn64tab {H : Type} : DataW H := .agg [.lit (.int .u8 0), .lit (.int .u8 1), .lit (.int .u8 56), .lit (.int .u8 2), .lit (.int .u8 57), .lit (.int .u8 49), .lit (.int .u8 28), .lit (.int .u8 3), .lit (.int .u8 61), .lit (.int .u8 58), .lit (.int .u8 42), .lit (.int .u8 50), .lit (.int .u8 38), .lit (.int .u8 29), .lit (.int .u8 17), .lit (.int .u8 4), .lit (.int .u8 62), .lit (.int .u8 47), .lit (.int .u8 59), .lit (.int .u8 36), .lit (.int .u8 45), .lit (.int .u8 43), .lit (.int .u8 51), .lit (.int .u8 22), .lit (.int .u8 53), .lit (.int .u8 39), .lit (.int .u8 33), .lit (.int .u8 30), .lit (.int .u8 24), .lit (.int .u8 18), .lit (.int .u8 12), .lit (.int .u8 5), .lit (.int .u8 63), .lit (.int .u8 55), .lit (.int .u8 48), .lit (.int .u8 27), .lit (.int .u8 60), .lit (.int .u8 41), .lit (.int .u8 37), .lit (.int .u8 16), .lit (.int .u8 46), .lit (.int .u8 35), .lit (.int .u8 44), .lit (.int .u8 21), .lit (.int .u8 52), .lit (.int .u8 32), .lit (.int .u8 23), .lit (.int .u8 11), .lit (.int .u8 54), .lit (.int .u8 26), .lit (.int .u8 40), .lit (.int .u8 15), .lit (.int .u8 34), .lit (.int .u8 20), .lit (.int .u8 31), .lit (.int .u8 10), .lit (.int .u8 25), .lit (.int .u8 14), .lit (.int .u8 19), .lit (.int .u8 9), .lit (.int .u8 13), .lit (.int .u8 8), .lit (.int .u8 7), .lit (.int .u8 6)]
def laid_cloche_tones_sachs {H : Type} : DataW H := .iface "func table" (.agg [.iface "func" (.lit (.string [99, 108, 111, 99, 104, 101, 47, 116, 111, 110, 101, 115, 46, 115, 97, 99, 104, 115, 36, 49])), .iface "func" (.lit (.string [99, 108, 111, 99, 104, 101, 47, 116, 111, 110, 101, 115, 46, 115, 97, 99, 104, 115, 36, 50]))])
def laid_cloche_tones_many {H : Type} : DataW H := .iface "func table" (.agg [.iface "func" (.lit (.string [99, 108, 111, 99, 104, 101, 47, 116, 111, 110, 101, 115, 46, 109, 97, 110, 121, 36, 49])), .iface "func" (.lit (.string [99, 108, 111, 99, 104, 101, 47, 116, 111, 110, 101, 115, 46, 109, 97, 110, 121, 36, 50]))])
def laid_cloche_tones_matched {H : Type} : DataW H := .iface "func table" (.agg [.iface "func" (.lit (.string [99, 108, 111, 99, 104, 101, 47, 116, 111, 110, 101, 115, 46, 109, 97, 116, 99, 104, 101, 100, 36, 49])), .iface "func" (.lit (.string [99, 108, 111, 99, 104, 101, 47, 116, 111, 110, 101, 115, 46, 109, 97, 116, 99, 104, 101, 100, 36, 50]))])

/-- 'clochelaw08.TonesAlike': WHATEVER THE INPUT: true; the input reads as it did. -/
def tonesAlikeSpec : ChangeSpec := { name := "tonesAlike", fn := fun _ => fun
  | [d1, d2] => { results := [.lit (.bool true)], args := [d1, d2] }
  | _ => none }
def tonesAlikeRow : OpenClaim := { program := "ytdkgicdbjemalaadoor", sum := "022820794b96c53e92961f3ce7522f5430640216cd1fef47a3cd7c800f88075e", func := "cloche/clochelaw08.TonesAlike", spec := "tonesAlike", unfollowed := true, recurses := true, named := ["cloche/tones.sachs", "math/bits.deBruijn32tab", "math/bits.deBruijn64tab", "cloche/tones.matched", "cloche/tones.many"], apart := false, laid := [("math/bits.deBruijn32tab", laid_math_bits_deBruijn32tab), ("math/bits.deBruijn64tab", laid_math_bits_deBruijn64tab), ("cloche/tones.sachs", laid_cloche_tones_sachs), ("cloche/tones.many", laid_cloche_tones_many), ("cloche/tones.matched", laid_cloche_tones_matched)] }
def TonesAlikeSaid : Prop := tonesAlikeRow.holds Tryd.pinned (OpenSpec.ofChange tonesAlikeSpec)

/-- ITS FALSE NEIGHBOUR: 'it returns false'. Refute it at one input. -/
def tonesAlikeWrong : ChangeSpec := { name := "tonesAlike", fn := fun _ => fun
  | [d1, d2] => { results := [.lit (.bool false)], args := [d1, d2] }
  | _ => none }
def TonesAlikeWrongFalsely : Prop := tonesAlikeRow.holds Tryd.pinned (OpenSpec.ofChange tonesAlikeWrong)

/-- 'clochelaw08.TonesSachs': WHATEVER THE INPUT: true; the input reads as it did. -/
def tonesSachsSpec : ChangeSpec := { name := "tonesSachs", fn := fun _ => fun
  | [d] => { results := [.lit (.bool true)], args := [d] }
  | _ => none }
def tonesSachsRow : OpenClaim := { program := "ytdkgicdbjemalaadoor", sum := "022820794b96c53e92961f3ce7522f5430640216cd1fef47a3cd7c800f88075e", func := "cloche/clochelaw08.TonesSachs", spec := "tonesSachs", unfollowed := true, recurses := true, named := ["cloche/tones.sachs", "math/bits.deBruijn32tab", "math/bits.deBruijn64tab", "cloche/tones.matched", "cloche/tones.many"], apart := false, laid := [("math/bits.deBruijn32tab", laid_math_bits_deBruijn32tab), ("math/bits.deBruijn64tab", laid_math_bits_deBruijn64tab), ("cloche/tones.sachs", laid_cloche_tones_sachs), ("cloche/tones.many", laid_cloche_tones_many), ("cloche/tones.matched", laid_cloche_tones_matched)] }
def TonesSachsSaid : Prop := tonesSachsRow.holds Tryd.pinned (OpenSpec.ofChange tonesSachsSpec)

/-- ITS FALSE NEIGHBOUR: 'it returns false'. Refute it at one input. -/
def tonesSachsWrong : ChangeSpec := { name := "tonesSachs", fn := fun _ => fun
  | [d] => { results := [.lit (.bool false)], args := [d] }
  | _ => none }
def TonesSachsWrongFalsely : Prop := tonesSachsRow.holds Tryd.pinned (OpenSpec.ofChange tonesSachsWrong)

/-- 'clochelaw08.TonesReal': WHATEVER THE INPUT: true; the input reads as it did. -/
def tonesRealSpec : ChangeSpec := { name := "tonesReal", fn := fun _ => fun
  | [d] => { results := [.lit (.bool true)], args := [d] }
  | _ => none }
def tonesRealRow : OpenClaim := { program := "ytdkgicdbjemalaadoor", sum := "022820794b96c53e92961f3ce7522f5430640216cd1fef47a3cd7c800f88075e", func := "cloche/clochelaw08.TonesReal", spec := "tonesReal", unfollowed := true, recurses := true, named := ["cloche/tones.sachs", "math/bits.deBruijn32tab", "math/bits.deBruijn64tab", "cloche/tones.matched", "cloche/tones.many"], apart := false, laid := [("math/bits.deBruijn32tab", laid_math_bits_deBruijn32tab), ("math/bits.deBruijn64tab", laid_math_bits_deBruijn64tab), ("cloche/tones.sachs", laid_cloche_tones_sachs), ("cloche/tones.many", laid_cloche_tones_many), ("cloche/tones.matched", laid_cloche_tones_matched)] }
def TonesRealSaid : Prop := tonesRealRow.holds Tryd.pinned (OpenSpec.ofChange tonesRealSpec)

/-- ITS FALSE NEIGHBOUR: 'it returns false'. Refute it at one input. -/
def tonesRealWrong : ChangeSpec := { name := "tonesReal", fn := fun _ => fun
  | [d] => { results := [.lit (.bool false)], args := [d] }
  | _ => none }
def TonesRealWrongFalsely : Prop := tonesRealRow.holds Tryd.pinned (OpenSpec.ofChange tonesRealWrong)

/-- 'clochelaw08.TonesPolynomials': WHATEVER THE INPUT: true; the input reads as it did. -/
def tonesPolynomialsSpec : ChangeSpec := { name := "tonesPolynomials", fn := fun _ => fun
  | [d] => { results := [.lit (.bool true)], args := [d] }
  | _ => none }
def tonesPolynomialsRow : OpenClaim := { program := "ytdkgicdbjemalaadoor", sum := "022820794b96c53e92961f3ce7522f5430640216cd1fef47a3cd7c800f88075e", func := "cloche/clochelaw08.TonesPolynomials", spec := "tonesPolynomials", unfollowed := true, recurses := true, named := ["cloche/tones.sachs", "math/bits.deBruijn32tab", "math/bits.deBruijn64tab", "cloche/tones.matched", "cloche/tones.many"], apart := false, laid := [("math/bits.deBruijn32tab", laid_math_bits_deBruijn32tab), ("math/bits.deBruijn64tab", laid_math_bits_deBruijn64tab), ("cloche/tones.sachs", laid_cloche_tones_sachs), ("cloche/tones.many", laid_cloche_tones_many), ("cloche/tones.matched", laid_cloche_tones_matched)] }
def TonesPolynomialsSaid : Prop := tonesPolynomialsRow.holds Tryd.pinned (OpenSpec.ofChange tonesPolynomialsSpec)

/-- ITS FALSE NEIGHBOUR: 'it returns false'. Refute it at one input. -/
def tonesPolynomialsWrong : ChangeSpec := { name := "tonesPolynomials", fn := fun _ => fun
  | [d] => { results := [.lit (.bool false)], args := [d] }
  | _ => none }
def TonesPolynomialsWrongFalsely : Prop := tonesPolynomialsRow.holds Tryd.pinned (OpenSpec.ofChange tonesPolynomialsWrong)

/-- 'clochelaw08.TonesWires': WHATEVER THE INPUT: true; the input reads as it did. -/
def tonesWiresSpec : ChangeSpec := { name := "tonesWires", fn := fun _ => fun
  | [d1, d2, d3] => { results := [.lit (.bool true)], args := [d1, d2, d3] }
  | _ => none }
def tonesWiresRow : OpenClaim := { program := "ytdkgicdbjemalaadoor", sum := "022820794b96c53e92961f3ce7522f5430640216cd1fef47a3cd7c800f88075e", func := "cloche/clochelaw08.TonesWires", spec := "tonesWires", unfollowed := true, recurses := true, named := ["cloche/tones.sachs", "math/bits.deBruijn32tab", "math/bits.deBruijn64tab", "cloche/tones.matched", "cloche/tones.many"], apart := false, laid := [("math/bits.deBruijn32tab", laid_math_bits_deBruijn32tab), ("math/bits.deBruijn64tab", laid_math_bits_deBruijn64tab), ("cloche/tones.sachs", laid_cloche_tones_sachs), ("cloche/tones.many", laid_cloche_tones_many), ("cloche/tones.matched", laid_cloche_tones_matched)] }
def TonesWiresSaid : Prop := tonesWiresRow.holds Tryd.pinned (OpenSpec.ofChange tonesWiresSpec)

/-- ITS FALSE NEIGHBOUR: 'it returns false'. Refute it at one input. -/
def tonesWiresWrong : ChangeSpec := { name := "tonesWires", fn := fun _ => fun
  | [d1, d2, d3] => { results := [.lit (.bool false)], args := [d1, d2, d3] }
  | _ => none }
def TonesWiresWrongFalsely : Prop := tonesWiresRow.holds Tryd.pinned (OpenSpec.ofChange tonesWiresWrong)

/-- 'clochelaw08.TonesZeros': WHATEVER THE INPUT: true; the input reads as it did. -/
def tonesZerosSpec : ChangeSpec := { name := "tonesZeros", fn := fun _ => fun
  | [d1, d2, d3] => { results := [.lit (.bool true)], args := [d1, d2, d3] }
  | _ => none }
def tonesZerosRow : OpenClaim := { program := "ytdkgicdbjemalaadoor", sum := "022820794b96c53e92961f3ce7522f5430640216cd1fef47a3cd7c800f88075e", func := "cloche/clochelaw08.TonesZeros", spec := "tonesZeros", unfollowed := true, recurses := true, named := ["cloche/tones.sachs", "math/bits.deBruijn32tab", "math/bits.deBruijn64tab", "cloche/tones.matched", "cloche/tones.many"], apart := false, laid := [("math/bits.deBruijn32tab", laid_math_bits_deBruijn32tab), ("math/bits.deBruijn64tab", laid_math_bits_deBruijn64tab), ("cloche/tones.sachs", laid_cloche_tones_sachs), ("cloche/tones.many", laid_cloche_tones_many), ("cloche/tones.matched", laid_cloche_tones_matched)] }
def TonesZerosSaid : Prop := tonesZerosRow.holds Tryd.pinned (OpenSpec.ofChange tonesZerosSpec)

/-- ITS FALSE NEIGHBOUR: 'it returns false'. Refute it at one input. -/
def tonesZerosWrong : ChangeSpec := { name := "tonesZeros", fn := fun _ => fun
  | [d1, d2, d3] => { results := [.lit (.bool false)], args := [d1, d2, d3] }
  | _ => none }
def TonesZerosWrongFalsely : Prop := tonesZerosRow.holds Tryd.pinned (OpenSpec.ofChange tonesZerosWrong)

/-- 'clochelaw08.TonesParted': WHATEVER THE INPUT: true; the input reads as it did. -/
def tonesPartedSpec : ChangeSpec := { name := "tonesParted", fn := fun _ => fun
  | [d1, d2, d3, d4] => { results := [.lit (.bool true)], args := [d1, d2, d3, d4] }
  | _ => none }
def tonesPartedRow : OpenClaim := { program := "ytdkgicdbjemalaadoor", sum := "022820794b96c53e92961f3ce7522f5430640216cd1fef47a3cd7c800f88075e", func := "cloche/clochelaw08.TonesParted", spec := "tonesParted", unfollowed := true, recurses := true, named := ["cloche/tones.sachs", "math/bits.deBruijn32tab", "math/bits.deBruijn64tab", "cloche/tones.matched", "cloche/tones.many"], apart := false, laid := [("math/bits.deBruijn32tab", laid_math_bits_deBruijn32tab), ("math/bits.deBruijn64tab", laid_math_bits_deBruijn64tab), ("cloche/tones.sachs", laid_cloche_tones_sachs), ("cloche/tones.many", laid_cloche_tones_many), ("cloche/tones.matched", laid_cloche_tones_matched)] }
def TonesPartedSaid : Prop := tonesPartedRow.holds Tryd.pinned (OpenSpec.ofChange tonesPartedSpec)

/-- ITS FALSE NEIGHBOUR: 'it returns false'. Refute it at one input. -/
def tonesPartedWrong : ChangeSpec := { name := "tonesParted", fn := fun _ => fun
  | [d1, d2, d3, d4] => { results := [.lit (.bool false)], args := [d1, d2, d3, d4] }
  | _ => none }
def TonesPartedWrongFalsely : Prop := tonesPartedRow.holds Tryd.pinned (OpenSpec.ofChange tonesPartedWrong)

/-- 'clochelaw08.TonesKnots': WHATEVER THE INPUT: true; the input reads as it did. -/
def tonesKnotsSpec : ChangeSpec := { name := "tonesKnots", fn := fun _ => fun
  | [d1, d2] => { results := [.lit (.bool true)], args := [d1, d2] }
  | _ => none }
def tonesKnotsRow : OpenClaim := { program := "ytdkgicdbjemalaadoor", sum := "022820794b96c53e92961f3ce7522f5430640216cd1fef47a3cd7c800f88075e", func := "cloche/clochelaw08.TonesKnots", spec := "tonesKnots", unfollowed := true, recurses := true, named := ["cloche/tones.sachs", "math/bits.deBruijn32tab", "math/bits.deBruijn64tab", "cloche/tones.matched", "cloche/tones.many"], apart := false, laid := [("math/bits.deBruijn32tab", laid_math_bits_deBruijn32tab), ("math/bits.deBruijn64tab", laid_math_bits_deBruijn64tab), ("cloche/tones.sachs", laid_cloche_tones_sachs), ("cloche/tones.many", laid_cloche_tones_many), ("cloche/tones.matched", laid_cloche_tones_matched)] }
def TonesKnotsSaid : Prop := tonesKnotsRow.holds Tryd.pinned (OpenSpec.ofChange tonesKnotsSpec)

/-- ITS FALSE NEIGHBOUR: 'it returns false'. Refute it at one input. -/
def tonesKnotsWrong : ChangeSpec := { name := "tonesKnots", fn := fun _ => fun
  | [d1, d2] => { results := [.lit (.bool false)], args := [d1, d2] }
  | _ => none }
def TonesKnotsWrongFalsely : Prop := tonesKnotsRow.holds Tryd.pinned (OpenSpec.ofChange tonesKnotsWrong)

/-- 'clochelaw08.TonesTrees': WHATEVER THE INPUT: true; the input reads as it did. -/
def tonesTreesSpec : ChangeSpec := { name := "tonesTrees", fn := fun _ => fun
  | [d] => { results := [.lit (.bool true)], args := [d] }
  | _ => none }
def tonesTreesRow : OpenClaim := { program := "ytdkgicdbjemalaadoor", sum := "022820794b96c53e92961f3ce7522f5430640216cd1fef47a3cd7c800f88075e", func := "cloche/clochelaw08.TonesTrees", spec := "tonesTrees", unfollowed := true, recurses := true, named := ["cloche/tones.sachs", "math/bits.deBruijn32tab", "math/bits.deBruijn64tab", "cloche/tones.matched", "cloche/tones.many"], apart := false, laid := [("math/bits.deBruijn32tab", laid_math_bits_deBruijn32tab), ("math/bits.deBruijn64tab", laid_math_bits_deBruijn64tab), ("cloche/tones.sachs", laid_cloche_tones_sachs), ("cloche/tones.many", laid_cloche_tones_many), ("cloche/tones.matched", laid_cloche_tones_matched)] }
def TonesTreesSaid : Prop := tonesTreesRow.holds Tryd.pinned (OpenSpec.ofChange tonesTreesSpec)

/-- ITS FALSE NEIGHBOUR: 'it returns false'. Refute it at one input. -/
def tonesTreesWrong : ChangeSpec := { name := "tonesTrees", fn := fun _ => fun
  | [d] => { results := [.lit (.bool false)], args := [d] }
  | _ => none }
def TonesTreesWrongFalsely : Prop := tonesTreesRow.holds Tryd.pinned (OpenSpec.ofChange tonesTreesWrong)

/-- 'clochelaw08.TonesFigures': WHATEVER THE INPUT: true; the input reads as it did. -/
def tonesFiguresSpec : ChangeSpec := { name := "tonesFigures", fn := fun _ => fun
  | [d1, d2, d3] => { results := [.lit (.bool true)], args := [d1, d2, d3] }
  | _ => none }
def tonesFiguresRow : OpenClaim := { program := "ytdkgicdbjemalaadoor", sum := "022820794b96c53e92961f3ce7522f5430640216cd1fef47a3cd7c800f88075e", func := "cloche/clochelaw08.TonesFigures", spec := "tonesFigures", unfollowed := true, recurses := true, named := ["cloche/tones.sachs", "math/bits.deBruijn32tab", "math/bits.deBruijn64tab", "cloche/tones.matched", "cloche/tones.many"], apart := false, laid := [("math/bits.deBruijn32tab", laid_math_bits_deBruijn32tab), ("math/bits.deBruijn64tab", laid_math_bits_deBruijn64tab), ("cloche/tones.sachs", laid_cloche_tones_sachs), ("cloche/tones.many", laid_cloche_tones_many), ("cloche/tones.matched", laid_cloche_tones_matched)] }
def TonesFiguresSaid : Prop := tonesFiguresRow.holds Tryd.pinned (OpenSpec.ofChange tonesFiguresSpec)

/-- ITS FALSE NEIGHBOUR: 'it returns false'. Refute it at one input. -/
def tonesFiguresWrong : ChangeSpec := { name := "tonesFigures", fn := fun _ => fun
  | [d1, d2, d3] => { results := [.lit (.bool false)], args := [d1, d2, d3] }
  | _ => none }
def TonesFiguresWrongFalsely : Prop := tonesFiguresRow.holds Tryd.pinned (OpenSpec.ofChange tonesFiguresWrong)

/-- 'clochelaw08.TonesWalked': WHATEVER THE INPUT: true; the input reads as it did. -/
def tonesWalkedSpec : ChangeSpec := { name := "tonesWalked", fn := fun _ => fun
  | [d] => { results := [.lit (.bool true)], args := [d] }
  | _ => none }
def tonesWalkedRow : OpenClaim := { program := "ytdkgicdbjemalaadoor", sum := "022820794b96c53e92961f3ce7522f5430640216cd1fef47a3cd7c800f88075e", func := "cloche/clochelaw08.TonesWalked", spec := "tonesWalked", unfollowed := true, recurses := true, named := ["cloche/tones.sachs", "math/bits.deBruijn32tab", "math/bits.deBruijn64tab", "cloche/tones.matched", "cloche/tones.many"], apart := false, laid := [("math/bits.deBruijn32tab", laid_math_bits_deBruijn32tab), ("math/bits.deBruijn64tab", laid_math_bits_deBruijn64tab), ("cloche/tones.sachs", laid_cloche_tones_sachs), ("cloche/tones.many", laid_cloche_tones_many), ("cloche/tones.matched", laid_cloche_tones_matched)] }
def TonesWalkedSaid : Prop := tonesWalkedRow.holds Tryd.pinned (OpenSpec.ofChange tonesWalkedSpec)

/-- ITS FALSE NEIGHBOUR: 'it returns false'. Refute it at one input. -/
def tonesWalkedWrong : ChangeSpec := { name := "tonesWalked", fn := fun _ => fun
  | [d] => { results := [.lit (.bool false)], args := [d] }
  | _ => none }
def TonesWalkedWrongFalsely : Prop := tonesWalkedRow.holds Tryd.pinned (OpenSpec.ofChange tonesWalkedWrong)

/-- 'clochelaw08.TonesRenumbered': WHATEVER THE INPUT: true; the input reads as it did. -/
def tonesRenumberedSpec : ChangeSpec := { name := "tonesRenumbered", fn := fun _ => fun
  | [d1, d2, d3] => { results := [.lit (.bool true)], args := [d1, d2, d3] }
  | _ => none }
def tonesRenumberedRow : OpenClaim := { program := "ytdkgicdbjemalaadoor", sum := "022820794b96c53e92961f3ce7522f5430640216cd1fef47a3cd7c800f88075e", func := "cloche/clochelaw08.TonesRenumbered", spec := "tonesRenumbered", unfollowed := true, recurses := true, named := ["cloche/tones.sachs", "math/bits.deBruijn32tab", "math/bits.deBruijn64tab", "cloche/tones.matched", "cloche/tones.many"], apart := false, laid := [("math/bits.deBruijn32tab", laid_math_bits_deBruijn32tab), ("math/bits.deBruijn64tab", laid_math_bits_deBruijn64tab), ("cloche/tones.sachs", laid_cloche_tones_sachs), ("cloche/tones.many", laid_cloche_tones_many), ("cloche/tones.matched", laid_cloche_tones_matched)] }
def TonesRenumberedSaid : Prop := tonesRenumberedRow.holds Tryd.pinned (OpenSpec.ofChange tonesRenumberedSpec)

/-- ITS FALSE NEIGHBOUR: 'it returns false'. Refute it at one input. -/
def tonesRenumberedWrong : ChangeSpec := { name := "tonesRenumbered", fn := fun _ => fun
  | [d1, d2, d3] => { results := [.lit (.bool false)], args := [d1, d2, d3] }
  | _ => none }
def TonesRenumberedWrongFalsely : Prop := tonesRenumberedRow.holds Tryd.pinned (OpenSpec.ofChange tonesRenumberedWrong)

/-- 'clochelaw08.TonesCuts': WHATEVER THE INPUT: true; the input reads as it did. -/
def tonesCutsSpec : ChangeSpec := { name := "tonesCuts", fn := fun _ => fun
  | [d1, d2, d3] => { results := [.lit (.bool true)], args := [d1, d2, d3] }
  | _ => none }
def tonesCutsRow : OpenClaim := { program := "ytdkgicdbjemalaadoor", sum := "022820794b96c53e92961f3ce7522f5430640216cd1fef47a3cd7c800f88075e", func := "cloche/clochelaw08.TonesCuts", spec := "tonesCuts", unfollowed := true, recurses := true, named := ["cloche/tones.sachs", "math/bits.deBruijn32tab", "math/bits.deBruijn64tab", "cloche/tones.matched", "cloche/tones.many"], apart := false, laid := [("math/bits.deBruijn32tab", laid_math_bits_deBruijn32tab), ("math/bits.deBruijn64tab", laid_math_bits_deBruijn64tab), ("cloche/tones.sachs", laid_cloche_tones_sachs), ("cloche/tones.many", laid_cloche_tones_many), ("cloche/tones.matched", laid_cloche_tones_matched)] }
def TonesCutsSaid : Prop := tonesCutsRow.holds Tryd.pinned (OpenSpec.ofChange tonesCutsSpec)

/-- ITS FALSE NEIGHBOUR: 'it returns false'. Refute it at one input. -/
def tonesCutsWrong : ChangeSpec := { name := "tonesCuts", fn := fun _ => fun
  | [d1, d2, d3] => { results := [.lit (.bool false)], args := [d1, d2, d3] }
  | _ => none }
def TonesCutsWrongFalsely : Prop := tonesCutsRow.holds Tryd.pinned (OpenSpec.ofChange tonesCutsWrong)

/- THE SECOND FORM. 'bulk': how many values and letters a reading holds, each counted each time it is reached (what is shared counts as often as it is met; a slice's spare places count too). A statement '..UptoSaid' is the law's where the arguments, and the package variables that the reading takes, are together of bulk at most 1048576: NARROWER than '..Said'. Prove '..Said' where nothing that the law and all that it calls make is longer than what came in: it says more and counts as full. Else prove '..UptoSaid'. A law counts once. -/
mutual
def uptoBulk {H : Type} : DataW H → Nat
  | .lit (.string bytes) => bytes.length + 1
  | .lit _ => 1
  | .nil => 1
  | .ptr d => uptoBulk d + 1
  | .slice elems spare => uptoBulkAll elems + uptoBulkAll spare + 1
  | .agg parts => uptoBulkAll parts + 1
  | .iface _ d => uptoBulk d + 1
  | .map entries => uptoBulkEntries entries + 1
  | .held _ => 1
def uptoBulkAll {H : Type} : List (DataW H) → Nat
  | [] => 0
  | d :: r => uptoBulk d + uptoBulkAll r
def uptoBulkEntries {H : Type} : List (Lit × DataW H) → Nat
  | [] => 0
  | x :: r => uptoBulkEntry x + uptoBulkEntries r
def uptoBulkEntry {H : Type} : Lit × DataW H → Nat
  | (.string bytes, d) => bytes.length + uptoBulk d + 1
  | (_, d) => uptoBulk d + 1
 end
def uptoSmall : (H : Type) → List (DataW H) → Bool := fun _ ds => decide (uptoBulkAll ds ≤ 1048576)
def OpenSpec.upto (s : _root_.Go.ChangeSpec) : _root_.Go.OpenSpec := { _root_.Go.OpenSpec.ofChange s with cond := some uptoSmall }

/-- 'clochelaw08.TonesAlike', WHERE WHAT IT READS IS OF BULK AT MOST 1048576: true; the input reads as it did. -/
def tonesAlikeUptoRow : OpenClaim := { program := "ytdkgicdbjemalaadoor", sum := "022820794b96c53e92961f3ce7522f5430640216cd1fef47a3cd7c800f88075e", func := "cloche/clochelaw08.TonesAlike", spec := "tonesAlike", unfollowed := true, recurses := true, named := ["cloche/tones.sachs", "math/bits.deBruijn32tab", "math/bits.deBruijn64tab", "cloche/tones.matched", "cloche/tones.many"], apart := false, laid := [("math/bits.deBruijn32tab", laid_math_bits_deBruijn32tab), ("math/bits.deBruijn64tab", laid_math_bits_deBruijn64tab), ("cloche/tones.sachs", laid_cloche_tones_sachs), ("cloche/tones.many", laid_cloche_tones_many), ("cloche/tones.matched", laid_cloche_tones_matched)], narrowed := true }
def TonesAlikeUptoSaid : Prop := tonesAlikeUptoRow.holds Tryd.pinned (OpenSpec.upto tonesAlikeSpec)

/-- 'clochelaw08.TonesSachs', WHERE WHAT IT READS IS OF BULK AT MOST 1048576: true; the input reads as it did. -/
def tonesSachsUptoRow : OpenClaim := { program := "ytdkgicdbjemalaadoor", sum := "022820794b96c53e92961f3ce7522f5430640216cd1fef47a3cd7c800f88075e", func := "cloche/clochelaw08.TonesSachs", spec := "tonesSachs", unfollowed := true, recurses := true, named := ["cloche/tones.sachs", "math/bits.deBruijn32tab", "math/bits.deBruijn64tab", "cloche/tones.matched", "cloche/tones.many"], apart := false, laid := [("math/bits.deBruijn32tab", laid_math_bits_deBruijn32tab), ("math/bits.deBruijn64tab", laid_math_bits_deBruijn64tab), ("cloche/tones.sachs", laid_cloche_tones_sachs), ("cloche/tones.many", laid_cloche_tones_many), ("cloche/tones.matched", laid_cloche_tones_matched)], narrowed := true }
def TonesSachsUptoSaid : Prop := tonesSachsUptoRow.holds Tryd.pinned (OpenSpec.upto tonesSachsSpec)

/-- 'clochelaw08.TonesReal', WHERE WHAT IT READS IS OF BULK AT MOST 1048576: true; the input reads as it did. -/
def tonesRealUptoRow : OpenClaim := { program := "ytdkgicdbjemalaadoor", sum := "022820794b96c53e92961f3ce7522f5430640216cd1fef47a3cd7c800f88075e", func := "cloche/clochelaw08.TonesReal", spec := "tonesReal", unfollowed := true, recurses := true, named := ["cloche/tones.sachs", "math/bits.deBruijn32tab", "math/bits.deBruijn64tab", "cloche/tones.matched", "cloche/tones.many"], apart := false, laid := [("math/bits.deBruijn32tab", laid_math_bits_deBruijn32tab), ("math/bits.deBruijn64tab", laid_math_bits_deBruijn64tab), ("cloche/tones.sachs", laid_cloche_tones_sachs), ("cloche/tones.many", laid_cloche_tones_many), ("cloche/tones.matched", laid_cloche_tones_matched)], narrowed := true }
def TonesRealUptoSaid : Prop := tonesRealUptoRow.holds Tryd.pinned (OpenSpec.upto tonesRealSpec)

/-- 'clochelaw08.TonesPolynomials', WHERE WHAT IT READS IS OF BULK AT MOST 1048576: true; the input reads as it did. -/
def tonesPolynomialsUptoRow : OpenClaim := { program := "ytdkgicdbjemalaadoor", sum := "022820794b96c53e92961f3ce7522f5430640216cd1fef47a3cd7c800f88075e", func := "cloche/clochelaw08.TonesPolynomials", spec := "tonesPolynomials", unfollowed := true, recurses := true, named := ["cloche/tones.sachs", "math/bits.deBruijn32tab", "math/bits.deBruijn64tab", "cloche/tones.matched", "cloche/tones.many"], apart := false, laid := [("math/bits.deBruijn32tab", laid_math_bits_deBruijn32tab), ("math/bits.deBruijn64tab", laid_math_bits_deBruijn64tab), ("cloche/tones.sachs", laid_cloche_tones_sachs), ("cloche/tones.many", laid_cloche_tones_many), ("cloche/tones.matched", laid_cloche_tones_matched)], narrowed := true }
def TonesPolynomialsUptoSaid : Prop := tonesPolynomialsUptoRow.holds Tryd.pinned (OpenSpec.upto tonesPolynomialsSpec)

/-- 'clochelaw08.TonesWires', WHERE WHAT IT READS IS OF BULK AT MOST 1048576: true; the input reads as it did. -/
def tonesWiresUptoRow : OpenClaim := { program := "ytdkgicdbjemalaadoor", sum := "022820794b96c53e92961f3ce7522f5430640216cd1fef47a3cd7c800f88075e", func := "cloche/clochelaw08.TonesWires", spec := "tonesWires", unfollowed := true, recurses := true, named := ["cloche/tones.sachs", "math/bits.deBruijn32tab", "math/bits.deBruijn64tab", "cloche/tones.matched", "cloche/tones.many"], apart := false, laid := [("math/bits.deBruijn32tab", laid_math_bits_deBruijn32tab), ("math/bits.deBruijn64tab", laid_math_bits_deBruijn64tab), ("cloche/tones.sachs", laid_cloche_tones_sachs), ("cloche/tones.many", laid_cloche_tones_many), ("cloche/tones.matched", laid_cloche_tones_matched)], narrowed := true }
def TonesWiresUptoSaid : Prop := tonesWiresUptoRow.holds Tryd.pinned (OpenSpec.upto tonesWiresSpec)

/-- 'clochelaw08.TonesZeros', WHERE WHAT IT READS IS OF BULK AT MOST 1048576: true; the input reads as it did. -/
def tonesZerosUptoRow : OpenClaim := { program := "ytdkgicdbjemalaadoor", sum := "022820794b96c53e92961f3ce7522f5430640216cd1fef47a3cd7c800f88075e", func := "cloche/clochelaw08.TonesZeros", spec := "tonesZeros", unfollowed := true, recurses := true, named := ["cloche/tones.sachs", "math/bits.deBruijn32tab", "math/bits.deBruijn64tab", "cloche/tones.matched", "cloche/tones.many"], apart := false, laid := [("math/bits.deBruijn32tab", laid_math_bits_deBruijn32tab), ("math/bits.deBruijn64tab", laid_math_bits_deBruijn64tab), ("cloche/tones.sachs", laid_cloche_tones_sachs), ("cloche/tones.many", laid_cloche_tones_many), ("cloche/tones.matched", laid_cloche_tones_matched)], narrowed := true }
def TonesZerosUptoSaid : Prop := tonesZerosUptoRow.holds Tryd.pinned (OpenSpec.upto tonesZerosSpec)

/-- 'clochelaw08.TonesParted', WHERE WHAT IT READS IS OF BULK AT MOST 1048576: true; the input reads as it did. -/
def tonesPartedUptoRow : OpenClaim := { program := "ytdkgicdbjemalaadoor", sum := "022820794b96c53e92961f3ce7522f5430640216cd1fef47a3cd7c800f88075e", func := "cloche/clochelaw08.TonesParted", spec := "tonesParted", unfollowed := true, recurses := true, named := ["cloche/tones.sachs", "math/bits.deBruijn32tab", "math/bits.deBruijn64tab", "cloche/tones.matched", "cloche/tones.many"], apart := false, laid := [("math/bits.deBruijn32tab", laid_math_bits_deBruijn32tab), ("math/bits.deBruijn64tab", laid_math_bits_deBruijn64tab), ("cloche/tones.sachs", laid_cloche_tones_sachs), ("cloche/tones.many", laid_cloche_tones_many), ("cloche/tones.matched", laid_cloche_tones_matched)], narrowed := true }
def TonesPartedUptoSaid : Prop := tonesPartedUptoRow.holds Tryd.pinned (OpenSpec.upto tonesPartedSpec)

/-- 'clochelaw08.TonesKnots', WHERE WHAT IT READS IS OF BULK AT MOST 1048576: true; the input reads as it did. -/
def tonesKnotsUptoRow : OpenClaim := { program := "ytdkgicdbjemalaadoor", sum := "022820794b96c53e92961f3ce7522f5430640216cd1fef47a3cd7c800f88075e", func := "cloche/clochelaw08.TonesKnots", spec := "tonesKnots", unfollowed := true, recurses := true, named := ["cloche/tones.sachs", "math/bits.deBruijn32tab", "math/bits.deBruijn64tab", "cloche/tones.matched", "cloche/tones.many"], apart := false, laid := [("math/bits.deBruijn32tab", laid_math_bits_deBruijn32tab), ("math/bits.deBruijn64tab", laid_math_bits_deBruijn64tab), ("cloche/tones.sachs", laid_cloche_tones_sachs), ("cloche/tones.many", laid_cloche_tones_many), ("cloche/tones.matched", laid_cloche_tones_matched)], narrowed := true }
def TonesKnotsUptoSaid : Prop := tonesKnotsUptoRow.holds Tryd.pinned (OpenSpec.upto tonesKnotsSpec)

/-- 'clochelaw08.TonesTrees', WHERE WHAT IT READS IS OF BULK AT MOST 1048576: true; the input reads as it did. -/
def tonesTreesUptoRow : OpenClaim := { program := "ytdkgicdbjemalaadoor", sum := "022820794b96c53e92961f3ce7522f5430640216cd1fef47a3cd7c800f88075e", func := "cloche/clochelaw08.TonesTrees", spec := "tonesTrees", unfollowed := true, recurses := true, named := ["cloche/tones.sachs", "math/bits.deBruijn32tab", "math/bits.deBruijn64tab", "cloche/tones.matched", "cloche/tones.many"], apart := false, laid := [("math/bits.deBruijn32tab", laid_math_bits_deBruijn32tab), ("math/bits.deBruijn64tab", laid_math_bits_deBruijn64tab), ("cloche/tones.sachs", laid_cloche_tones_sachs), ("cloche/tones.many", laid_cloche_tones_many), ("cloche/tones.matched", laid_cloche_tones_matched)], narrowed := true }
def TonesTreesUptoSaid : Prop := tonesTreesUptoRow.holds Tryd.pinned (OpenSpec.upto tonesTreesSpec)

/-- 'clochelaw08.TonesFigures', WHERE WHAT IT READS IS OF BULK AT MOST 1048576: true; the input reads as it did. -/
def tonesFiguresUptoRow : OpenClaim := { program := "ytdkgicdbjemalaadoor", sum := "022820794b96c53e92961f3ce7522f5430640216cd1fef47a3cd7c800f88075e", func := "cloche/clochelaw08.TonesFigures", spec := "tonesFigures", unfollowed := true, recurses := true, named := ["cloche/tones.sachs", "math/bits.deBruijn32tab", "math/bits.deBruijn64tab", "cloche/tones.matched", "cloche/tones.many"], apart := false, laid := [("math/bits.deBruijn32tab", laid_math_bits_deBruijn32tab), ("math/bits.deBruijn64tab", laid_math_bits_deBruijn64tab), ("cloche/tones.sachs", laid_cloche_tones_sachs), ("cloche/tones.many", laid_cloche_tones_many), ("cloche/tones.matched", laid_cloche_tones_matched)], narrowed := true }
def TonesFiguresUptoSaid : Prop := tonesFiguresUptoRow.holds Tryd.pinned (OpenSpec.upto tonesFiguresSpec)

/-- 'clochelaw08.TonesWalked', WHERE WHAT IT READS IS OF BULK AT MOST 1048576: true; the input reads as it did. -/
def tonesWalkedUptoRow : OpenClaim := { program := "ytdkgicdbjemalaadoor", sum := "022820794b96c53e92961f3ce7522f5430640216cd1fef47a3cd7c800f88075e", func := "cloche/clochelaw08.TonesWalked", spec := "tonesWalked", unfollowed := true, recurses := true, named := ["cloche/tones.sachs", "math/bits.deBruijn32tab", "math/bits.deBruijn64tab", "cloche/tones.matched", "cloche/tones.many"], apart := false, laid := [("math/bits.deBruijn32tab", laid_math_bits_deBruijn32tab), ("math/bits.deBruijn64tab", laid_math_bits_deBruijn64tab), ("cloche/tones.sachs", laid_cloche_tones_sachs), ("cloche/tones.many", laid_cloche_tones_many), ("cloche/tones.matched", laid_cloche_tones_matched)], narrowed := true }
def TonesWalkedUptoSaid : Prop := tonesWalkedUptoRow.holds Tryd.pinned (OpenSpec.upto tonesWalkedSpec)

/-- 'clochelaw08.TonesRenumbered', WHERE WHAT IT READS IS OF BULK AT MOST 1048576: true; the input reads as it did. -/
def tonesRenumberedUptoRow : OpenClaim := { program := "ytdkgicdbjemalaadoor", sum := "022820794b96c53e92961f3ce7522f5430640216cd1fef47a3cd7c800f88075e", func := "cloche/clochelaw08.TonesRenumbered", spec := "tonesRenumbered", unfollowed := true, recurses := true, named := ["cloche/tones.sachs", "math/bits.deBruijn32tab", "math/bits.deBruijn64tab", "cloche/tones.matched", "cloche/tones.many"], apart := false, laid := [("math/bits.deBruijn32tab", laid_math_bits_deBruijn32tab), ("math/bits.deBruijn64tab", laid_math_bits_deBruijn64tab), ("cloche/tones.sachs", laid_cloche_tones_sachs), ("cloche/tones.many", laid_cloche_tones_many), ("cloche/tones.matched", laid_cloche_tones_matched)], narrowed := true }
def TonesRenumberedUptoSaid : Prop := tonesRenumberedUptoRow.holds Tryd.pinned (OpenSpec.upto tonesRenumberedSpec)

/-- 'clochelaw08.TonesCuts', WHERE WHAT IT READS IS OF BULK AT MOST 1048576: true; the input reads as it did. -/
def tonesCutsUptoRow : OpenClaim := { program := "ytdkgicdbjemalaadoor", sum := "022820794b96c53e92961f3ce7522f5430640216cd1fef47a3cd7c800f88075e", func := "cloche/clochelaw08.TonesCuts", spec := "tonesCuts", unfollowed := true, recurses := true, named := ["cloche/tones.sachs", "math/bits.deBruijn32tab", "math/bits.deBruijn64tab", "cloche/tones.matched", "cloche/tones.many"], apart := false, laid := [("math/bits.deBruijn32tab", laid_math_bits_deBruijn32tab), ("math/bits.deBruijn64tab", laid_math_bits_deBruijn64tab), ("cloche/tones.sachs", laid_cloche_tones_sachs), ("cloche/tones.many", laid_cloche_tones_many), ("cloche/tones.matched", laid_cloche_tones_matched)], narrowed := true }
def TonesCutsUptoSaid : Prop := tonesCutsUptoRow.holds Tryd.pinned (OpenSpec.upto tonesCutsSpec)

end Rows
end Go.Proofs.YtdkgicdbjemalaaDoor
