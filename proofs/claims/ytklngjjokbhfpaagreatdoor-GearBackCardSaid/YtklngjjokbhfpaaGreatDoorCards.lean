/-
  DERIVED. GIVEN WITH THE SEED: THE CARDS: each row of YtklngjjokbhfpaaGreatDoorRows.lean that lists a variable, with what it lists TIED to the program's text (the seventh form; the later family's looks); each row that meets fmt, with fmt's text TOLD by the authors' own Lean function (tested against real Go, not proved from fmt's source: count such statements apart). THE CARD IS WHAT COUNTS. Prove the row's statement (the work); the ties are given (YtklngjjokbhfpaaGreatDoorTie.lean); close each card by the builder's one call (the guide's Derived/Test/ToyasCard.lean, 'card_holds'). Laid BY PROGRAM, IN A SANDBOX (cutbox-door.mjs). By AI agents, Wed Nov 11 2026. No macro, syntax, notation, axiom, sorry.
-/
import Derived.Test.YtklngjjokbhfpaaGreatDoorRows
import GoSem.ClaimSeven
namespace Go.Proofs.YtklngjjokbhfpaaGreatDoor
namespace Rows

/-- THE TIED CARD OF 'tourbillonlaw01.GearFloors'. -/
def gearFloorsCard : Claim7 := { stood := { row := gearFloorsRow, standIns := [], harness := (true, "43ba19518305b63ef5101b4c2c070f1c27a6ae06d8583cab1b6a3857ead9401d"), looks := true }, kinds := [], alts := [], laidByText := true, laidKinds := [.data, .data, .data], laidTests := true, laidLooks := .later }
def GearFloorsCardSaid : Prop := Claim7.holds Tryz.pinned (.plain (OpenSpec.ofChange gearFloorsSpec)) gearFloorsCard

/-- THE TIED CARD OF 'tourbillonlaw01.GearParses'. -/
def gearParsesCard : Claim7 := { stood := { row := gearParsesRow, standIns := [], harness := (true, "43ba19518305b63ef5101b4c2c070f1c27a6ae06d8583cab1b6a3857ead9401d"), looks := true }, kinds := [], alts := [], laidByText := true, laidKinds := [.data, .data, .data, .sentinel, .sentinel], laidTests := true, laidLooks := .later }
def GearParsesCardSaid : Prop := Claim7.holds Tryz.pinned (.plain (OpenSpec.ofChange gearParsesSpec)) gearParsesCard

/-- THE TIED CARD OF 'tourbillonlaw01.GearBack'. -/
def gearBackCard : Claim7 := { stood := { row := gearBackRow, standIns := [], harness := (true, "43ba19518305b63ef5101b4c2c070f1c27a6ae06d8583cab1b6a3857ead9401d"), looks := true }, kinds := [], alts := [], laidByText := true, laidKinds := [.data, .data, .data, .sentinel, .sentinel], laidTests := true, laidLooks := .later }
def GearBackCardSaid : Prop := Claim7.holds Tryz.pinned (.plain (OpenSpec.ofChange gearBackSpec)) gearBackCard

/-- THE SECOND FORM's CARD OF 'tourbillonlaw01.GearFloors'. -/
def gearFloorsUptoCard : Claim7 := { stood := { row := gearFloorsUptoRow, standIns := [], harness := (true, "43ba19518305b63ef5101b4c2c070f1c27a6ae06d8583cab1b6a3857ead9401d"), looks := true }, kinds := [], alts := [], laidByText := true, laidKinds := [.data, .data, .data], laidTests := true, laidLooks := .later }
def GearFloorsUptoCardSaid : Prop := Claim7.holds Tryz.pinned (.plain (OpenSpec.upto gearFloorsSpec)) gearFloorsUptoCard

/-- THE SECOND FORM's CARD OF 'tourbillonlaw01.GearParses'. -/
def gearParsesUptoCard : Claim7 := { stood := { row := gearParsesUptoRow, standIns := [], harness := (true, "43ba19518305b63ef5101b4c2c070f1c27a6ae06d8583cab1b6a3857ead9401d"), looks := true }, kinds := [], alts := [], laidByText := true, laidKinds := [.data, .data, .data, .sentinel, .sentinel], laidTests := true, laidLooks := .later }
def GearParsesUptoCardSaid : Prop := Claim7.holds Tryz.pinned (.plain (OpenSpec.upto gearParsesSpec)) gearParsesUptoCard

/-- THE SECOND FORM's CARD OF 'tourbillonlaw01.GearBack'. -/
def gearBackUptoCard : Claim7 := { stood := { row := gearBackUptoRow, standIns := [], harness := (true, "43ba19518305b63ef5101b4c2c070f1c27a6ae06d8583cab1b6a3857ead9401d"), looks := true }, kinds := [], alts := [], laidByText := true, laidKinds := [.data, .data, .data, .sentinel, .sentinel], laidTests := true, laidLooks := .later }
def GearBackUptoCardSaid : Prop := Claim7.holds Tryz.pinned (.plain (OpenSpec.upto gearBackSpec)) gearBackUptoCard
end Rows
end Go.Proofs.YtklngjjokbhfpaaGreatDoor
