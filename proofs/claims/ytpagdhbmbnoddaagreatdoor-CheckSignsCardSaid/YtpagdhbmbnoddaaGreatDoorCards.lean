/-
  DERIVED. GIVEN WITH THE SEED: THE CARDS: each row of YtpagdhbmbnoddaaGreatDoorRows.lean that lists a variable, with what it lists TIED to the program's text (the seventh form; the later family's looks); each row that meets fmt, with fmt's text TOLD by the authors' own Lean function (tested against real Go, not proved from fmt's source: count such statements apart). THE CARD IS WHAT COUNTS. Prove the row's statement (the work); the ties are given (YtpagdhbmbnoddaaGreatDoorTie.lean); close each card by the builder's one call (the guide's Derived/Test/ToyasCard.lean, 'card_holds'). Laid BY PROGRAM, IN A SANDBOX (cutbox-door.mjs). By AI agents, Wed Nov 11 2026. No macro, syntax, notation, axiom, sorry.
-/
import Derived.Test.YtpagdhbmbnoddaaGreatDoorRows
import GoSem.ClaimSeven
namespace Go.Proofs.YtpagdhbmbnoddaaGreatDoor
namespace Rows

/-- THE TIED CARD OF 'cupellaw15.MutateMost'. -/
def mutateMostCard : Claim7 := { stood := { row := mutateMostRow, standIns := [], harness := (true, "f05d135e5e30efa67c4d6619015733bb9f6c441e8ef4b82e60a3bb8c481782d2"), looks := true }, kinds := [], alts := [], laidByText := true, laidKinds := [.data, .data, .data, .data, .sentinel, .sentinel, .pinned], laidTests := true, laidLooks := .later }
def MutateMostCardSaid : Prop := Claim7.holds Tryz.pinned (.plain (OpenSpec.ofChange mutateMostSpec)) mutateMostCard

/-- THE TIED CARD OF 'cupellaw11.ParseRanks'. -/
def parseRanksCard : Claim7 := { stood := { row := parseRanksRow, standIns := [], harness := (true, "f05d135e5e30efa67c4d6619015733bb9f6c441e8ef4b82e60a3bb8c481782d2"), looks := true }, kinds := [], alts := [], laidByText := true, laidKinds := [.data, .data, .data, .data, .sentinel, .sentinel, .pinned], laidTests := true, laidLooks := .later }
def ParseRanksCardSaid : Prop := Claim7.holds Tryz.pinned (.plain (OpenSpec.ofChange parseRanksSpec)) parseRanksCard

/-- THE TIED CARD OF 'cupellaw12.CheckScopes'. -/
def checkScopesCard : Claim7 := { stood := { row := checkScopesRow, standIns := [], harness := (true, "f05d135e5e30efa67c4d6619015733bb9f6c441e8ef4b82e60a3bb8c481782d2"), looks := true }, kinds := [], alts := [], laidByText := true, laidKinds := [.data, .data, .data, .data, .sentinel, .sentinel, .pinned], laidTests := true, laidLooks := .later }
def CheckScopesCardSaid : Prop := Claim7.holds Tryz.pinned (.plain (OpenSpec.ofChange checkScopesSpec)) checkScopesCard

/-- THE TIED CARD OF 'cupellaw12.CheckSigns'. -/
def checkSignsCard : Claim7 := { stood := { row := checkSignsRow, standIns := [], harness := (true, "f05d135e5e30efa67c4d6619015733bb9f6c441e8ef4b82e60a3bb8c481782d2"), looks := true }, kinds := [], alts := [], laidByText := true, laidKinds := [.data, .data, .data, .data, .sentinel, .sentinel, .pinned], laidTests := true, laidLooks := .later }
def CheckSignsCardSaid : Prop := Claim7.holds Tryz.pinned (.plain (OpenSpec.ofChange checkSignsSpec)) checkSignsCard

/-- THE SECOND FORM's CARD OF 'cupellaw15.MutateMost'. -/
def mutateMostUptoCard : Claim7 := { stood := { row := mutateMostUptoRow, standIns := [], harness := (true, "f05d135e5e30efa67c4d6619015733bb9f6c441e8ef4b82e60a3bb8c481782d2"), looks := true }, kinds := [], alts := [], laidByText := true, laidKinds := [.data, .data, .data, .data, .sentinel, .sentinel, .pinned], laidTests := true, laidLooks := .later }
def MutateMostUptoCardSaid : Prop := Claim7.holds Tryz.pinned (.plain (OpenSpec.upto mutateMostSpec)) mutateMostUptoCard

/-- THE SECOND FORM's CARD OF 'cupellaw11.ParseRanks'. -/
def parseRanksUptoCard : Claim7 := { stood := { row := parseRanksUptoRow, standIns := [], harness := (true, "f05d135e5e30efa67c4d6619015733bb9f6c441e8ef4b82e60a3bb8c481782d2"), looks := true }, kinds := [], alts := [], laidByText := true, laidKinds := [.data, .data, .data, .data, .sentinel, .sentinel, .pinned], laidTests := true, laidLooks := .later }
def ParseRanksUptoCardSaid : Prop := Claim7.holds Tryz.pinned (.plain (OpenSpec.upto parseRanksSpec)) parseRanksUptoCard

/-- THE SECOND FORM's CARD OF 'cupellaw12.CheckScopes'. -/
def checkScopesUptoCard : Claim7 := { stood := { row := checkScopesUptoRow, standIns := [], harness := (true, "f05d135e5e30efa67c4d6619015733bb9f6c441e8ef4b82e60a3bb8c481782d2"), looks := true }, kinds := [], alts := [], laidByText := true, laidKinds := [.data, .data, .data, .data, .sentinel, .sentinel, .pinned], laidTests := true, laidLooks := .later }
def CheckScopesUptoCardSaid : Prop := Claim7.holds Tryz.pinned (.plain (OpenSpec.upto checkScopesSpec)) checkScopesUptoCard

/-- THE SECOND FORM's CARD OF 'cupellaw12.CheckSigns'. -/
def checkSignsUptoCard : Claim7 := { stood := { row := checkSignsUptoRow, standIns := [], harness := (true, "f05d135e5e30efa67c4d6619015733bb9f6c441e8ef4b82e60a3bb8c481782d2"), looks := true }, kinds := [], alts := [], laidByText := true, laidKinds := [.data, .data, .data, .data, .sentinel, .sentinel, .pinned], laidTests := true, laidLooks := .later }
def CheckSignsUptoCardSaid : Prop := Claim7.holds Tryz.pinned (.plain (OpenSpec.upto checkSignsSpec)) checkSignsUptoCard
end Rows
end Go.Proofs.YtpagdhbmbnoddaaGreatDoor
