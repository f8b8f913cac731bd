/-
  DERIVED. GIVEN WITH THE SEED: THE CARDS: each row of YtdkgicdbjemalaaDoorRows.lean that lists a variable, with what it lists TIED to the program's text (the seventh form; the later family's looks); each row that meets fmt, with fmt's text TOLD by the authors' own Lean function (tested against real Go, not proved from fmt's source: count such statements apart). THE CARD IS WHAT COUNTS. Prove the row's statement (the work); the ties are given (YtdkgicdbjemalaaDoorTie.lean); close each card by the builder's one call (the guide's Derived/Test/ToyasCard.lean, 'card_holds'). Laid BY PROGRAM, IN A SANDBOX (cutbox-door.mjs). By AI agents, Wed Nov 11 2026. No macro, syntax, notation, axiom, sorry.
-/
import Derived.Test.YtdkgicdbjemalaaDoorRows
import GoSem.ClaimSeven
namespace Go.Proofs.YtdkgicdbjemalaaDoor
namespace Rows

/-- THE TIED CARD OF 'clochelaw08.TonesAlike'. -/
def tonesAlikeCard : Claim7 := { stood := { row := tonesAlikeRow, standIns := [], harness := (true, "60e6a4914d9076847b654165fd89ec34bed219c5c12d2926d281adefdad22080"), looks := false }, kinds := [], alts := [], laidByText := true, laidKinds := [.data, .data, .funcs, .funcs, .funcs], laidTests := true, laidLooks := .later }
def TonesAlikeCardSaid : Prop := Claim7.holds Tryd.pinned (.plain (OpenSpec.ofChange tonesAlikeSpec)) tonesAlikeCard

/-- THE TIED CARD OF 'clochelaw08.TonesSachs'. -/
def tonesSachsCard : Claim7 := { stood := { row := tonesSachsRow, standIns := [], harness := (true, "60e6a4914d9076847b654165fd89ec34bed219c5c12d2926d281adefdad22080"), looks := false }, kinds := [], alts := [], laidByText := true, laidKinds := [.data, .data, .funcs, .funcs, .funcs], laidTests := true, laidLooks := .later }
def TonesSachsCardSaid : Prop := Claim7.holds Tryd.pinned (.plain (OpenSpec.ofChange tonesSachsSpec)) tonesSachsCard

/-- THE TIED CARD OF 'clochelaw08.TonesReal'. -/
def tonesRealCard : Claim7 := { stood := { row := tonesRealRow, standIns := [], harness := (true, "60e6a4914d9076847b654165fd89ec34bed219c5c12d2926d281adefdad22080"), looks := false }, kinds := [], alts := [], laidByText := true, laidKinds := [.data, .data, .funcs, .funcs, .funcs], laidTests := true, laidLooks := .later }
def TonesRealCardSaid : Prop := Claim7.holds Tryd.pinned (.plain (OpenSpec.ofChange tonesRealSpec)) tonesRealCard

/-- THE TIED CARD OF 'clochelaw08.TonesPolynomials'. -/
def tonesPolynomialsCard : Claim7 := { stood := { row := tonesPolynomialsRow, standIns := [], harness := (true, "60e6a4914d9076847b654165fd89ec34bed219c5c12d2926d281adefdad22080"), looks := false }, kinds := [], alts := [], laidByText := true, laidKinds := [.data, .data, .funcs, .funcs, .funcs], laidTests := true, laidLooks := .later }
def TonesPolynomialsCardSaid : Prop := Claim7.holds Tryd.pinned (.plain (OpenSpec.ofChange tonesPolynomialsSpec)) tonesPolynomialsCard

/-- THE TIED CARD OF 'clochelaw08.TonesWires'. -/
def tonesWiresCard : Claim7 := { stood := { row := tonesWiresRow, standIns := [], harness := (true, "60e6a4914d9076847b654165fd89ec34bed219c5c12d2926d281adefdad22080"), looks := false }, kinds := [], alts := [], laidByText := true, laidKinds := [.data, .data, .funcs, .funcs, .funcs], laidTests := true, laidLooks := .later }
def TonesWiresCardSaid : Prop := Claim7.holds Tryd.pinned (.plain (OpenSpec.ofChange tonesWiresSpec)) tonesWiresCard

/-- THE TIED CARD OF 'clochelaw08.TonesZeros'. -/
def tonesZerosCard : Claim7 := { stood := { row := tonesZerosRow, standIns := [], harness := (true, "60e6a4914d9076847b654165fd89ec34bed219c5c12d2926d281adefdad22080"), looks := false }, kinds := [], alts := [], laidByText := true, laidKinds := [.data, .data, .funcs, .funcs, .funcs], laidTests := true, laidLooks := .later }
def TonesZerosCardSaid : Prop := Claim7.holds Tryd.pinned (.plain (OpenSpec.ofChange tonesZerosSpec)) tonesZerosCard

/-- THE TIED CARD OF 'clochelaw08.TonesParted'. -/
def tonesPartedCard : Claim7 := { stood := { row := tonesPartedRow, standIns := [], harness := (true, "60e6a4914d9076847b654165fd89ec34bed219c5c12d2926d281adefdad22080"), looks := false }, kinds := [], alts := [], laidByText := true, laidKinds := [.data, .data, .funcs, .funcs, .funcs], laidTests := true, laidLooks := .later }
def TonesPartedCardSaid : Prop := Claim7.holds Tryd.pinned (.plain (OpenSpec.ofChange tonesPartedSpec)) tonesPartedCard

/-- THE TIED CARD OF 'clochelaw08.TonesKnots'. -/
def tonesKnotsCard : Claim7 := { stood := { row := tonesKnotsRow, standIns := [], harness := (true, "60e6a4914d9076847b654165fd89ec34bed219c5c12d2926d281adefdad22080"), looks := false }, kinds := [], alts := [], laidByText := true, laidKinds := [.data, .data, .funcs, .funcs, .funcs], laidTests := true, laidLooks := .later }
def TonesKnotsCardSaid : Prop := Claim7.holds Tryd.pinned (.plain (OpenSpec.ofChange tonesKnotsSpec)) tonesKnotsCard

/-- THE TIED CARD OF 'clochelaw08.TonesTrees'. -/
def tonesTreesCard : Claim7 := { stood := { row := tonesTreesRow, standIns := [], harness := (true, "60e6a4914d9076847b654165fd89ec34bed219c5c12d2926d281adefdad22080"), looks := false }, kinds := [], alts := [], laidByText := true, laidKinds := [.data, .data, .funcs, .funcs, .funcs], laidTests := true, laidLooks := .later }
def TonesTreesCardSaid : Prop := Claim7.holds Tryd.pinned (.plain (OpenSpec.ofChange tonesTreesSpec)) tonesTreesCard

/-- THE TIED CARD OF 'clochelaw08.TonesFigures'. -/
def tonesFiguresCard : Claim7 := { stood := { row := tonesFiguresRow, standIns := [], harness := (true, "60e6a4914d9076847b654165fd89ec34bed219c5c12d2926d281adefdad22080"), looks := false }, kinds := [], alts := [], laidByText := true, laidKinds := [.data, .data, .funcs, .funcs, .funcs], laidTests := true, laidLooks := .later }
def TonesFiguresCardSaid : Prop := Claim7.holds Tryd.pinned (.plain (OpenSpec.ofChange tonesFiguresSpec)) tonesFiguresCard

/-- THE TIED CARD OF 'clochelaw08.TonesWalked'. -/
def tonesWalkedCard : Claim7 := { stood := { row := tonesWalkedRow, standIns := [], harness := (true, "60e6a4914d9076847b654165fd89ec34bed219c5c12d2926d281adefdad22080"), looks := false }, kinds := [], alts := [], laidByText := true, laidKinds := [.data, .data, .funcs, .funcs, .funcs], laidTests := true, laidLooks := .later }
def TonesWalkedCardSaid : Prop := Claim7.holds Tryd.pinned (.plain (OpenSpec.ofChange tonesWalkedSpec)) tonesWalkedCard

/-- THE TIED CARD OF 'clochelaw08.TonesRenumbered'. -/
def tonesRenumberedCard : Claim7 := { stood := { row := tonesRenumberedRow, standIns := [], harness := (true, "60e6a4914d9076847b654165fd89ec34bed219c5c12d2926d281adefdad22080"), looks := false }, kinds := [], alts := [], laidByText := true, laidKinds := [.data, .data, .funcs, .funcs, .funcs], laidTests := true, laidLooks := .later }
def TonesRenumberedCardSaid : Prop := Claim7.holds Tryd.pinned (.plain (OpenSpec.ofChange tonesRenumberedSpec)) tonesRenumberedCard

/-- THE TIED CARD OF 'clochelaw08.TonesCuts'. -/
def tonesCutsCard : Claim7 := { stood := { row := tonesCutsRow, standIns := [], harness := (true, "60e6a4914d9076847b654165fd89ec34bed219c5c12d2926d281adefdad22080"), looks := false }, kinds := [], alts := [], laidByText := true, laidKinds := [.data, .data, .funcs, .funcs, .funcs], laidTests := true, laidLooks := .later }
def TonesCutsCardSaid : Prop := Claim7.holds Tryd.pinned (.plain (OpenSpec.ofChange tonesCutsSpec)) tonesCutsCard

/-- THE SECOND FORM's CARD OF 'clochelaw08.TonesAlike'. -/
def tonesAlikeUptoCard : Claim7 := { stood := { row := tonesAlikeUptoRow, standIns := [], harness := (true, "60e6a4914d9076847b654165fd89ec34bed219c5c12d2926d281adefdad22080"), looks := false }, kinds := [], alts := [], laidByText := true, laidKinds := [.data, .data, .funcs, .funcs, .funcs], laidTests := true, laidLooks := .later }
def TonesAlikeUptoCardSaid : Prop := Claim7.holds Tryd.pinned (.plain (OpenSpec.upto tonesAlikeSpec)) tonesAlikeUptoCard

/-- THE SECOND FORM's CARD OF 'clochelaw08.TonesSachs'. -/
def tonesSachsUptoCard : Claim7 := { stood := { row := tonesSachsUptoRow, standIns := [], harness := (true, "60e6a4914d9076847b654165fd89ec34bed219c5c12d2926d281adefdad22080"), looks := false }, kinds := [], alts := [], laidByText := true, laidKinds := [.data, .data, .funcs, .funcs, .funcs], laidTests := true, laidLooks := .later }
def TonesSachsUptoCardSaid : Prop := Claim7.holds Tryd.pinned (.plain (OpenSpec.upto tonesSachsSpec)) tonesSachsUptoCard

/-- THE SECOND FORM's CARD OF 'clochelaw08.TonesReal'. -/
def tonesRealUptoCard : Claim7 := { stood := { row := tonesRealUptoRow, standIns := [], harness := (true, "60e6a4914d9076847b654165fd89ec34bed219c5c12d2926d281adefdad22080"), looks := false }, kinds := [], alts := [], laidByText := true, laidKinds := [.data, .data, .funcs, .funcs, .funcs], laidTests := true, laidLooks := .later }
def TonesRealUptoCardSaid : Prop := Claim7.holds Tryd.pinned (.plain (OpenSpec.upto tonesRealSpec)) tonesRealUptoCard

/-- THE SECOND FORM's CARD OF 'clochelaw08.TonesPolynomials'. -/
def tonesPolynomialsUptoCard : Claim7 := { stood := { row := tonesPolynomialsUptoRow, standIns := [], harness := (true, "60e6a4914d9076847b654165fd89ec34bed219c5c12d2926d281adefdad22080"), looks := false }, kinds := [], alts := [], laidByText := true, laidKinds := [.data, .data, .funcs, .funcs, .funcs], laidTests := true, laidLooks := .later }
def TonesPolynomialsUptoCardSaid : Prop := Claim7.holds Tryd.pinned (.plain (OpenSpec.upto tonesPolynomialsSpec)) tonesPolynomialsUptoCard

/-- THE SECOND FORM's CARD OF 'clochelaw08.TonesWires'. -/
def tonesWiresUptoCard : Claim7 := { stood := { row := tonesWiresUptoRow, standIns := [], harness := (true, "60e6a4914d9076847b654165fd89ec34bed219c5c12d2926d281adefdad22080"), looks := false }, kinds := [], alts := [], laidByText := true, laidKinds := [.data, .data, .funcs, .funcs, .funcs], laidTests := true, laidLooks := .later }
def TonesWiresUptoCardSaid : Prop := Claim7.holds Tryd.pinned (.plain (OpenSpec.upto tonesWiresSpec)) tonesWiresUptoCard

/-- THE SECOND FORM's CARD OF 'clochelaw08.TonesZeros'. -/
def tonesZerosUptoCard : Claim7 := { stood := { row := tonesZerosUptoRow, standIns := [], harness := (true, "60e6a4914d9076847b654165fd89ec34bed219c5c12d2926d281adefdad22080"), looks := false }, kinds := [], alts := [], laidByText := true, laidKinds := [.data, .data, .funcs, .funcs, .funcs], laidTests := true, laidLooks := .later }
def TonesZerosUptoCardSaid : Prop := Claim7.holds Tryd.pinned (.plain (OpenSpec.upto tonesZerosSpec)) tonesZerosUptoCard

/-- THE SECOND FORM's CARD OF 'clochelaw08.TonesParted'. -/
def tonesPartedUptoCard : Claim7 := { stood := { row := tonesPartedUptoRow, standIns := [], harness := (true, "60e6a4914d9076847b654165fd89ec34bed219c5c12d2926d281adefdad22080"), looks := false }, kinds := [], alts := [], laidByText := true, laidKinds := [.data, .data, .funcs, .funcs, .funcs], laidTests := true, laidLooks := .later }
def TonesPartedUptoCardSaid : Prop := Claim7.holds Tryd.pinned (.plain (OpenSpec.upto tonesPartedSpec)) tonesPartedUptoCard

/-- THE SECOND FORM's CARD OF 'clochelaw08.TonesKnots'. -/
def tonesKnotsUptoCard : Claim7 := { stood := { row := tonesKnotsUptoRow, standIns := [], harness := (true, "60e6a4914d9076847b654165fd89ec34bed219c5c12d2926d281adefdad22080"), looks := false }, kinds := [], alts := [], laidByText := true, laidKinds := [.data, .data, .funcs, .funcs, .funcs], laidTests := true, laidLooks := .later }
def TonesKnotsUptoCardSaid : Prop := Claim7.holds Tryd.pinned (.plain (OpenSpec.upto tonesKnotsSpec)) tonesKnotsUptoCard

/-- THE SECOND FORM's CARD OF 'clochelaw08.TonesTrees'. -/
def tonesTreesUptoCard : Claim7 := { stood := { row := tonesTreesUptoRow, standIns := [], harness := (true, "60e6a4914d9076847b654165fd89ec34bed219c5c12d2926d281adefdad22080"), looks := false }, kinds := [], alts := [], laidByText := true, laidKinds := [.data, .data, .funcs, .funcs, .funcs], laidTests := true, laidLooks := .later }
def TonesTreesUptoCardSaid : Prop := Claim7.holds Tryd.pinned (.plain (OpenSpec.upto tonesTreesSpec)) tonesTreesUptoCard

/-- THE SECOND FORM's CARD OF 'clochelaw08.TonesFigures'. -/
def tonesFiguresUptoCard : Claim7 := { stood := { row := tonesFiguresUptoRow, standIns := [], harness := (true, "60e6a4914d9076847b654165fd89ec34bed219c5c12d2926d281adefdad22080"), looks := false }, kinds := [], alts := [], laidByText := true, laidKinds := [.data, .data, .funcs, .funcs, .funcs], laidTests := true, laidLooks := .later }
def TonesFiguresUptoCardSaid : Prop := Claim7.holds Tryd.pinned (.plain (OpenSpec.upto tonesFiguresSpec)) tonesFiguresUptoCard

/-- THE SECOND FORM's CARD OF 'clochelaw08.TonesWalked'. -/
def tonesWalkedUptoCard : Claim7 := { stood := { row := tonesWalkedUptoRow, standIns := [], harness := (true, "60e6a4914d9076847b654165fd89ec34bed219c5c12d2926d281adefdad22080"), looks := false }, kinds := [], alts := [], laidByText := true, laidKinds := [.data, .data, .funcs, .funcs, .funcs], laidTests := true, laidLooks := .later }
def TonesWalkedUptoCardSaid : Prop := Claim7.holds Tryd.pinned (.plain (OpenSpec.upto tonesWalkedSpec)) tonesWalkedUptoCard

/-- THE SECOND FORM's CARD OF 'clochelaw08.TonesRenumbered'. -/
def tonesRenumberedUptoCard : Claim7 := { stood := { row := tonesRenumberedUptoRow, standIns := [], harness := (true, "60e6a4914d9076847b654165fd89ec34bed219c5c12d2926d281adefdad22080"), looks := false }, kinds := [], alts := [], laidByText := true, laidKinds := [.data, .data, .funcs, .funcs, .funcs], laidTests := true, laidLooks := .later }
def TonesRenumberedUptoCardSaid : Prop := Claim7.holds Tryd.pinned (.plain (OpenSpec.upto tonesRenumberedSpec)) tonesRenumberedUptoCard

/-- THE SECOND FORM's CARD OF 'clochelaw08.TonesCuts'. -/
def tonesCutsUptoCard : Claim7 := { stood := { row := tonesCutsUptoRow, standIns := [], harness := (true, "60e6a4914d9076847b654165fd89ec34bed219c5c12d2926d281adefdad22080"), looks := false }, kinds := [], alts := [], laidByText := true, laidKinds := [.data, .data, .funcs, .funcs, .funcs], laidTests := true, laidLooks := .later }
def TonesCutsUptoCardSaid : Prop := Claim7.holds Tryd.pinned (.plain (OpenSpec.upto tonesCutsSpec)) tonesCutsUptoCard
end Rows
end Go.Proofs.YtdkgicdbjemalaaDoor
