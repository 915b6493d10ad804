/-
  DERIVED. GIVEN WITH THE SEED: THE CARDS: each row of YtbkgbkmpalbdpaaGreatDoorRows.lean that lists a variable, with what it lists TIED to the program's text (the seventh form; the later family's looks); each row that meets fmt, with fmt's text TOLD by the authors' own Lean function (tested against real Go, not proved from fmt's source: count such statements apart). THE CARD IS WHAT COUNTS. Prove the row's statement (the work); the ties are given (YtbkgbkmpalbdpaaGreatDoorTie.lean); close each card by the builder's one call (the guide's Derived/Test/ToyasCard.lean, 'card_holds'). Laid BY PROGRAM, IN A SANDBOX (cutbox-door.mjs). By AI agents, Wed Nov 11 2026. No macro, syntax, notation, axiom, sorry.
-/
import Derived.Test.YtbkgbkmpalbdpaaGreatDoorRows
import GoSem.ClaimSeven
namespace Go.Proofs.YtbkgbkmpalbdpaaGreatDoor
namespace Rows

/-- THE TIED CARD OF 'tourbillontop.TopPapers'. -/
def topPapersCard : Claim7 := { stood := { row := topPapersRow, standIns := [], harness := (true, "3c297729335b255d660dbcde5ef127f1bb4b875104d708cfdae4a0b4eea41d46"), looks := true }, kinds := [], alts := [], laidByText := true, laidKinds := [.data, .data, .data, .pinned, .data, .sentinel, .sentinel, .data, .listed], laidTests := true, laidLooks := .later }
def TopPapersCardSaid : Prop := Claim7.holds Tryz.pinned (.plain (OpenSpec.ofChange topPapersSpec)) topPapersCard

/-- THE TIED CARD OF 'tourbillonlaw10.HouseNobody'. -/
def houseNobodyCard : Claim7 := { stood := { row := houseNobodyRow, standIns := [], harness := (true, "3c297729335b255d660dbcde5ef127f1bb4b875104d708cfdae4a0b4eea41d46"), looks := true }, kinds := [], alts := [], laidByText := true, laidKinds := [.data, .data, .data, .pinned, .data, .sentinel, .sentinel, .data, .listed], laidTests := true, laidLooks := .later }
def HouseNobodyCardSaid : Prop := Claim7.holds Tryz.pinned (.plain (OpenSpec.ofChange houseNobodySpec)) houseNobodyCard

/-- THE SECOND FORM's CARD OF 'tourbillontop.TopPapers'. -/
def topPapersUptoCard : Claim7 := { stood := { row := topPapersUptoRow, standIns := [], harness := (true, "3c297729335b255d660dbcde5ef127f1bb4b875104d708cfdae4a0b4eea41d46"), looks := true }, kinds := [], alts := [], laidByText := true, laidKinds := [.data, .data, .data, .pinned, .data, .sentinel, .sentinel, .data, .listed], laidTests := true, laidLooks := .later }
def TopPapersUptoCardSaid : Prop := Claim7.holds Tryz.pinned (.plain (OpenSpec.upto topPapersSpec)) topPapersUptoCard

/-- THE SECOND FORM's CARD OF 'tourbillonlaw10.HouseNobody'. -/
def houseNobodyUptoCard : Claim7 := { stood := { row := houseNobodyUptoRow, standIns := [], harness := (true, "3c297729335b255d660dbcde5ef127f1bb4b875104d708cfdae4a0b4eea41d46"), looks := true }, kinds := [], alts := [], laidByText := true, laidKinds := [.data, .data, .data, .pinned, .data, .sentinel, .sentinel, .data, .listed], laidTests := true, laidLooks := .later }
def HouseNobodyUptoCardSaid : Prop := Claim7.holds Tryz.pinned (.plain (OpenSpec.upto houseNobodySpec)) houseNobodyUptoCard
end Rows
end Go.Proofs.YtbkgbkmpalbdpaaGreatDoor
