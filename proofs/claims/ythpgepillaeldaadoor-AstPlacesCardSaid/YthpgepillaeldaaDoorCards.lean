/-
  DERIVED. GIVEN WITH THE SEED: THE CARDS: each row of YthpgepillaeldaaDoorRows.lean that lists a variable, with what it lists TIED to the program's text (the seventh form; the later family's looks); each row that meets fmt, with fmt's text TOLD by the authors' own Lean function (tested against real Go, not proved from fmt's source: count such statements apart). THE CARD IS WHAT COUNTS. Prove the row's statement (the work); the ties are given (YthpgepillaeldaaDoorTie.lean); close each card by the builder's one call (the guide's Derived/Test/ToyasCard.lean, 'card_holds'). Laid BY PROGRAM, IN A SANDBOX (cutbox-door.mjs). By AI agents, Wed Nov 11 2026. No macro, syntax, notation, axiom, sorry.
-/
import Derived.Test.YthpgepillaeldaaDoorRows
import GoSem.ClaimSeven
namespace Go.Proofs.YthpgepillaeldaaDoor
namespace Rows

/-- THE TIED CARD OF 'cupellaw09.LexNumbers'. -/
def lexNumbersCard : Claim7 := { stood := { row := lexNumbersRow, standIns := [], harness := (true, "af1a51601fde018b056a86dbf47d2667f887cc975500de379f8d999b05b5c501"), looks := false }, kinds := [], alts := [], laidByText := true, laidKinds := [.data, .data, .data], laidTests := true, laidLooks := .later }
def LexNumbersCardSaid : Prop := Claim7.holds Tryd.pinned (.plain (OpenSpec.ofChange lexNumbersSpec)) lexNumbersCard

/-- THE TIED CARD OF 'cupellaw10.AstReads'. -/
def astReadsCard : Claim7 := { stood := { row := astReadsRow, standIns := [], harness := (true, "af1a51601fde018b056a86dbf47d2667f887cc975500de379f8d999b05b5c501"), looks := false }, kinds := [], alts := [], laidByText := true, laidKinds := [.data, .data, .data], laidTests := true, laidLooks := .later }
def AstReadsCardSaid : Prop := Claim7.holds Tryd.pinned (.plain (OpenSpec.ofChange astReadsSpec)) astReadsCard

/-- THE TIED CARD OF 'cupellaw10.AstCopies'. -/
def astCopiesCard : Claim7 := { stood := { row := astCopiesRow, standIns := [], harness := (true, "af1a51601fde018b056a86dbf47d2667f887cc975500de379f8d999b05b5c501"), looks := false }, kinds := [], alts := [], laidByText := true, laidKinds := [.data, .data, .data], laidTests := true, laidLooks := .later }
def AstCopiesCardSaid : Prop := Claim7.holds Tryd.pinned (.plain (OpenSpec.ofChange astCopiesSpec)) astCopiesCard

/-- THE TIED CARD OF 'cupellaw10.AstPlaces'. -/
def astPlacesCard : Claim7 := { stood := { row := astPlacesRow, standIns := [], harness := (true, "af1a51601fde018b056a86dbf47d2667f887cc975500de379f8d999b05b5c501"), looks := false }, kinds := [], alts := [], laidByText := true, laidKinds := [.data, .data, .data], laidTests := true, laidLooks := .later }
def AstPlacesCardSaid : Prop := Claim7.holds Tryd.pinned (.plain (OpenSpec.ofChange astPlacesSpec)) astPlacesCard

/-- THE TIED CARD OF 'cupellaw10.AstDigits'. -/
def astDigitsCard : Claim7 := { stood := { row := astDigitsRow, standIns := [], harness := (true, "af1a51601fde018b056a86dbf47d2667f887cc975500de379f8d999b05b5c501"), looks := false }, kinds := [], alts := [], laidByText := true, laidKinds := [.data, .data, .data, .data, .pinned], laidTests := true, laidLooks := .later }
def AstDigitsCardSaid : Prop := Claim7.holds Tryd.pinned (.plain (OpenSpec.ofChange astDigitsSpec)) astDigitsCard

/-- THE SECOND FORM's CARD OF 'cupellaw09.LexNumbers'. -/
def lexNumbersUptoCard : Claim7 := { stood := { row := lexNumbersUptoRow, standIns := [], harness := (true, "af1a51601fde018b056a86dbf47d2667f887cc975500de379f8d999b05b5c501"), looks := false }, kinds := [], alts := [], laidByText := true, laidKinds := [.data, .data, .data], laidTests := true, laidLooks := .later }
def LexNumbersUptoCardSaid : Prop := Claim7.holds Tryd.pinned (.plain (OpenSpec.upto lexNumbersSpec)) lexNumbersUptoCard

/-- THE SECOND FORM's CARD OF 'cupellaw10.AstReads'. -/
def astReadsUptoCard : Claim7 := { stood := { row := astReadsUptoRow, standIns := [], harness := (true, "af1a51601fde018b056a86dbf47d2667f887cc975500de379f8d999b05b5c501"), looks := false }, kinds := [], alts := [], laidByText := true, laidKinds := [.data, .data, .data], laidTests := true, laidLooks := .later }
def AstReadsUptoCardSaid : Prop := Claim7.holds Tryd.pinned (.plain (OpenSpec.upto astReadsSpec)) astReadsUptoCard

/-- THE SECOND FORM's CARD OF 'cupellaw10.AstCopies'. -/
def astCopiesUptoCard : Claim7 := { stood := { row := astCopiesUptoRow, standIns := [], harness := (true, "af1a51601fde018b056a86dbf47d2667f887cc975500de379f8d999b05b5c501"), looks := false }, kinds := [], alts := [], laidByText := true, laidKinds := [.data, .data, .data], laidTests := true, laidLooks := .later }
def AstCopiesUptoCardSaid : Prop := Claim7.holds Tryd.pinned (.plain (OpenSpec.upto astCopiesSpec)) astCopiesUptoCard

/-- THE SECOND FORM's CARD OF 'cupellaw10.AstPlaces'. -/
def astPlacesUptoCard : Claim7 := { stood := { row := astPlacesUptoRow, standIns := [], harness := (true, "af1a51601fde018b056a86dbf47d2667f887cc975500de379f8d999b05b5c501"), looks := false }, kinds := [], alts := [], laidByText := true, laidKinds := [.data, .data, .data], laidTests := true, laidLooks := .later }
def AstPlacesUptoCardSaid : Prop := Claim7.holds Tryd.pinned (.plain (OpenSpec.upto astPlacesSpec)) astPlacesUptoCard

/-- THE SECOND FORM's CARD OF 'cupellaw10.AstDigits'. -/
def astDigitsUptoCard : Claim7 := { stood := { row := astDigitsUptoRow, standIns := [], harness := (true, "af1a51601fde018b056a86dbf47d2667f887cc975500de379f8d999b05b5c501"), looks := false }, kinds := [], alts := [], laidByText := true, laidKinds := [.data, .data, .data, .data, .pinned], laidTests := true, laidLooks := .later }
def AstDigitsUptoCardSaid : Prop := Claim7.holds Tryd.pinned (.plain (OpenSpec.upto astDigitsSpec)) astDigitsUptoCard
end Rows
end Go.Proofs.YthpgepillaeldaaDoor
