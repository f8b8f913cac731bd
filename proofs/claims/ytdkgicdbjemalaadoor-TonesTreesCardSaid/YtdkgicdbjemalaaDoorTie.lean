/-
  DERIVED. GIVEN WITH THE SEED: THE PROGRAM's TIES (one call each: nine closed facts by the kernel) AND EACH ROW's TIE, after the 31st guide's Derived/Test/Toyas{Tie, Card}.lean. No idea stands in it: it is a product of the set-up. Laid BY PROGRAM, IN A SANDBOX (cutbox-door.mjs). By AI agents, Wed Nov 11 2026. No macro, syntax, notation, axiom, sorry.
-/
import Derived.Test.YtdkgicdbjemalaaDoorRows
import Derived.LaidByTextLater
import Derived.SevenTiedAt
import Derived.LaidSub
import Derived.LaidOnce
namespace Go.Proofs.YtdkgicdbjemalaaDoor
open Go
set_option maxRecDepth 100000
theorem seatTie1 : Tryd.prog.laidByTextLater [("math/bits.deBruijn32tab", Rows.laid_math_bits_deBruijn32tab), ("math/bits.deBruijn64tab", Rows.laid_math_bits_deBruijn64tab), ("cloche/tones.sachs", Rows.laid_cloche_tones_sachs), ("cloche/tones.many", Rows.laid_cloche_tones_many), ("cloche/tones.matched", Rows.laid_cloche_tones_matched)] [.data, .data, .funcs, .funcs, .funcs] true :=
  Program.laidByTextLater_by_one 34 8 65 (by kernel_rfl) (by kernel_rfl) (by kernel_rfl) (by kernel_rfl) (by kernel_rfl) (by kernel_rfl) (fun _ _ => by kernel_rfl)
theorem noOwnUnsafe : Tryd.pinned.checked.prog.headLifts.contains "ownunsafe" = false := by kernel_rfl
theorem tie : Tryd.prog.laidByTextLater [("math/bits.deBruijn32tab", Rows.laid_math_bits_deBruijn32tab), ("math/bits.deBruijn64tab", Rows.laid_math_bits_deBruijn64tab), ("cloche/tones.sachs", Rows.laid_cloche_tones_sachs), ("cloche/tones.many", Rows.laid_cloche_tones_many), ("cloche/tones.matched", Rows.laid_cloche_tones_matched)] [.data, .data, .funcs, .funcs, .funcs] true :=
  Program.laidByTextLater.sub seatTie1 ["math/bits.deBruijn32tab", "math/bits.deBruijn64tab", "cloche/tones.sachs", "cloche/tones.many", "cloche/tones.matched"] (by kernel_rfl) (by kernel_rfl)
theorem tonesAlike_row_tie : Rows.tonesAlikeRow.laidByTextAt .later Tryd.pinned [.data, .data, .funcs, .funcs, .funcs] true :=
  OpenClaim.laidByTextAt_later rfl rfl tie noOwnUnsafe
theorem tonesSachs_row_tie : Rows.tonesSachsRow.laidByTextAt .later Tryd.pinned [.data, .data, .funcs, .funcs, .funcs] true :=
  OpenClaim.laidByTextAt_later rfl rfl tie noOwnUnsafe
theorem tonesReal_row_tie : Rows.tonesRealRow.laidByTextAt .later Tryd.pinned [.data, .data, .funcs, .funcs, .funcs] true :=
  OpenClaim.laidByTextAt_later rfl rfl tie noOwnUnsafe
theorem tonesPolynomials_row_tie : Rows.tonesPolynomialsRow.laidByTextAt .later Tryd.pinned [.data, .data, .funcs, .funcs, .funcs] true :=
  OpenClaim.laidByTextAt_later rfl rfl tie noOwnUnsafe
theorem tonesWires_row_tie : Rows.tonesWiresRow.laidByTextAt .later Tryd.pinned [.data, .data, .funcs, .funcs, .funcs] true :=
  OpenClaim.laidByTextAt_later rfl rfl tie noOwnUnsafe
theorem tonesZeros_row_tie : Rows.tonesZerosRow.laidByTextAt .later Tryd.pinned [.data, .data, .funcs, .funcs, .funcs] true :=
  OpenClaim.laidByTextAt_later rfl rfl tie noOwnUnsafe
theorem tonesParted_row_tie : Rows.tonesPartedRow.laidByTextAt .later Tryd.pinned [.data, .data, .funcs, .funcs, .funcs] true :=
  OpenClaim.laidByTextAt_later rfl rfl tie noOwnUnsafe
theorem tonesKnots_row_tie : Rows.tonesKnotsRow.laidByTextAt .later Tryd.pinned [.data, .data, .funcs, .funcs, .funcs] true :=
  OpenClaim.laidByTextAt_later rfl rfl tie noOwnUnsafe
theorem tonesTrees_row_tie : Rows.tonesTreesRow.laidByTextAt .later Tryd.pinned [.data, .data, .funcs, .funcs, .funcs] true :=
  OpenClaim.laidByTextAt_later rfl rfl tie noOwnUnsafe
theorem tonesFigures_row_tie : Rows.tonesFiguresRow.laidByTextAt .later Tryd.pinned [.data, .data, .funcs, .funcs, .funcs] true :=
  OpenClaim.laidByTextAt_later rfl rfl tie noOwnUnsafe
theorem tonesWalked_row_tie : Rows.tonesWalkedRow.laidByTextAt .later Tryd.pinned [.data, .data, .funcs, .funcs, .funcs] true :=
  OpenClaim.laidByTextAt_later rfl rfl tie noOwnUnsafe
theorem tonesRenumbered_row_tie : Rows.tonesRenumberedRow.laidByTextAt .later Tryd.pinned [.data, .data, .funcs, .funcs, .funcs] true :=
  OpenClaim.laidByTextAt_later rfl rfl tie noOwnUnsafe
theorem tonesCuts_row_tie : Rows.tonesCutsRow.laidByTextAt .later Tryd.pinned [.data, .data, .funcs, .funcs, .funcs] true :=
  OpenClaim.laidByTextAt_later rfl rfl tie noOwnUnsafe
theorem tonesAlikeUpto_row_tie : Rows.tonesAlikeUptoRow.laidByTextAt .later Tryd.pinned [.data, .data, .funcs, .funcs, .funcs] true :=
  OpenClaim.laidByTextAt_later rfl rfl tie noOwnUnsafe
theorem tonesSachsUpto_row_tie : Rows.tonesSachsUptoRow.laidByTextAt .later Tryd.pinned [.data, .data, .funcs, .funcs, .funcs] true :=
  OpenClaim.laidByTextAt_later rfl rfl tie noOwnUnsafe
theorem tonesRealUpto_row_tie : Rows.tonesRealUptoRow.laidByTextAt .later Tryd.pinned [.data, .data, .funcs, .funcs, .funcs] true :=
  OpenClaim.laidByTextAt_later rfl rfl tie noOwnUnsafe
theorem tonesPolynomialsUpto_row_tie : Rows.tonesPolynomialsUptoRow.laidByTextAt .later Tryd.pinned [.data, .data, .funcs, .funcs, .funcs] true :=
  OpenClaim.laidByTextAt_later rfl rfl tie noOwnUnsafe
theorem tonesWiresUpto_row_tie : Rows.tonesWiresUptoRow.laidByTextAt .later Tryd.pinned [.data, .data, .funcs, .funcs, .funcs] true :=
  OpenClaim.laidByTextAt_later rfl rfl tie noOwnUnsafe
theorem tonesZerosUpto_row_tie : Rows.tonesZerosUptoRow.laidByTextAt .later Tryd.pinned [.data, .data, .funcs, .funcs, .funcs] true :=
  OpenClaim.laidByTextAt_later rfl rfl tie noOwnUnsafe
theorem tonesPartedUpto_row_tie : Rows.tonesPartedUptoRow.laidByTextAt .later Tryd.pinned [.data, .data, .funcs, .funcs, .funcs] true :=
  OpenClaim.laidByTextAt_later rfl rfl tie noOwnUnsafe
theorem tonesKnotsUpto_row_tie : Rows.tonesKnotsUptoRow.laidByTextAt .later Tryd.pinned [.data, .data, .funcs, .funcs, .funcs] true :=
  OpenClaim.laidByTextAt_later rfl rfl tie noOwnUnsafe
theorem tonesTreesUpto_row_tie : Rows.tonesTreesUptoRow.laidByTextAt .later Tryd.pinned [.data, .data, .funcs, .funcs, .funcs] true :=
  OpenClaim.laidByTextAt_later rfl rfl tie noOwnUnsafe
theorem tonesFiguresUpto_row_tie : Rows.tonesFiguresUptoRow.laidByTextAt .later Tryd.pinned [.data, .data, .funcs, .funcs, .funcs] true :=
  OpenClaim.laidByTextAt_later rfl rfl tie noOwnUnsafe
theorem tonesWalkedUpto_row_tie : Rows.tonesWalkedUptoRow.laidByTextAt .later Tryd.pinned [.data, .data, .funcs, .funcs, .funcs] true :=
  OpenClaim.laidByTextAt_later rfl rfl tie noOwnUnsafe
theorem tonesRenumberedUpto_row_tie : Rows.tonesRenumberedUptoRow.laidByTextAt .later Tryd.pinned [.data, .data, .funcs, .funcs, .funcs] true :=
  OpenClaim.laidByTextAt_later rfl rfl tie noOwnUnsafe
theorem tonesCutsUpto_row_tie : Rows.tonesCutsUptoRow.laidByTextAt .later Tryd.pinned [.data, .data, .funcs, .funcs, .funcs] true :=
  OpenClaim.laidByTextAt_later rfl rfl tie noOwnUnsafe
end Go.Proofs.YtdkgicdbjemalaaDoor
