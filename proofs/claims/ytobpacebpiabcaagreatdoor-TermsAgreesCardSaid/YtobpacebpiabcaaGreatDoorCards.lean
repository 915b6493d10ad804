/-
  DERIVED. GIVEN WITH THE SEED: THE CARDS: each row of YtobpacebpiabcaaGreatDoorRows.lean that lists a variable, with what it lists TIED to the program's text (the seventh form; the later family's looks); each row that meets fmt, with fmt's text TOLD by the authors' own Lean function (tested against real Go, not proved from fmt's source: count such statements apart). THE CARD IS WHAT COUNTS. Prove the row's statement (the work); the ties are given (YtobpacebpiabcaaGreatDoorTie.lean); close each card by the builder's one call (the guide's Derived/Test/ToyasCard.lean, 'card_holds'). Laid BY PROGRAM, IN A SANDBOX (cutbox-door.mjs). By AI agents, Wed Nov 11 2026. No macro, syntax, notation, axiom, sorry.
-/
import Derived.Test.YtobpacebpiabcaaGreatDoorRows
import GoSem.ClaimSeven
namespace Go.Proofs.YtobpacebpiabcaaGreatDoor
namespace Rows

/-- THE TIED CARD OF 'tourbillontop.TopRead'. -/
def topReadCard : Claim7 := { stood := { row := topReadRow, standIns := [], harness := (true, "878c0e2d82480dbe5aa558f92d075ec08aeaecc2fd5667be45bf9b61d366679f"), looks := true }, kinds := [], alts := [], laidByText := true, laidKinds := [.data, .data, .data, .data, .sentinel, .sentinel, .listed, .data, .pinned], laidTests := true, laidLooks := .later }
def TopReadCardSaid : Prop := Claim7.holds Tryz.pinned (.plain (OpenSpec.ofChange topReadSpec)) topReadCard

/-- THE TIED CARD OF 'tourbillonlaw08.TermsSteps'. -/
def termsStepsCard : Claim7 := { stood := { row := termsStepsRow, standIns := [], harness := (true, "878c0e2d82480dbe5aa558f92d075ec08aeaecc2fd5667be45bf9b61d366679f"), looks := true }, kinds := [], alts := [], laidByText := true, laidKinds := [.data, .data, .data, .data, .sentinel, .sentinel, .listed, .data, .pinned], laidTests := true, laidLooks := .later }
def TermsStepsCardSaid : Prop := Claim7.holds Tryz.pinned (.plain (OpenSpec.ofChange termsStepsSpec)) termsStepsCard

/-- THE TIED CARD OF 'tourbillonlaw08.TermsClones'. -/
def termsClonesCard : Claim7 := { stood := { row := termsClonesRow, standIns := [], harness := (true, "878c0e2d82480dbe5aa558f92d075ec08aeaecc2fd5667be45bf9b61d366679f"), looks := true }, kinds := [], alts := [], laidByText := true, laidKinds := [.data, .data, .data, .data, .sentinel, .sentinel, .listed, .data, .pinned], laidTests := true, laidLooks := .later }
def TermsClonesCardSaid : Prop := Claim7.holds Tryz.pinned (.plain (OpenSpec.ofChange termsClonesSpec)) termsClonesCard

/-- THE TIED CARD OF 'tourbillonlaw08.TermsAgrees'. -/
def termsAgreesCard : Claim7 := { stood := { row := termsAgreesRow, standIns := [], harness := (true, "878c0e2d82480dbe5aa558f92d075ec08aeaecc2fd5667be45bf9b61d366679f"), looks := true }, kinds := [], alts := [], laidByText := true, laidKinds := [.data, .data, .data, .data, .sentinel, .sentinel, .listed, .data, .pinned], laidTests := true, laidLooks := .later }
def TermsAgreesCardSaid : Prop := Claim7.holds Tryz.pinned (.plain (OpenSpec.ofChange termsAgreesSpec)) termsAgreesCard

/-- THE TIED CARD OF 'tourbillonlaw08.TermsProof'. -/
def termsProofCard : Claim7 := { stood := { row := termsProofRow, standIns := [], harness := (true, "878c0e2d82480dbe5aa558f92d075ec08aeaecc2fd5667be45bf9b61d366679f"), looks := true }, kinds := [], alts := [], laidByText := true, laidKinds := [.data, .data, .data, .data, .sentinel, .sentinel, .listed, .data, .pinned], laidTests := true, laidLooks := .later }
def TermsProofCardSaid : Prop := Claim7.holds Tryz.pinned (.plain (OpenSpec.ofChange termsProofSpec)) termsProofCard

/-- THE TIED CARD OF 'tourbillonlaw08.TermsLaws'. -/
def termsLawsCard : Claim7 := { stood := { row := termsLawsRow, standIns := [], harness := (true, "878c0e2d82480dbe5aa558f92d075ec08aeaecc2fd5667be45bf9b61d366679f"), looks := true }, kinds := [], alts := [], laidByText := true, laidKinds := [.data, .data, .data, .data, .sentinel, .sentinel, .listed, .data, .pinned], laidTests := true, laidLooks := .later }
def TermsLawsCardSaid : Prop := Claim7.holds Tryz.pinned (.plain (OpenSpec.ofChange termsLawsSpec)) termsLawsCard

/-- THE TIED CARD OF 'tourbillonlaw08.TermsShorter'. -/
def termsShorterCard : Claim7 := { stood := { row := termsShorterRow, standIns := [], harness := (true, "878c0e2d82480dbe5aa558f92d075ec08aeaecc2fd5667be45bf9b61d366679f"), looks := true }, kinds := [], alts := [], laidByText := true, laidKinds := [.data, .data, .data, .data, .sentinel, .sentinel, .listed, .data, .pinned], laidTests := true, laidLooks := .later }
def TermsShorterCardSaid : Prop := Claim7.holds Tryz.pinned (.plain (OpenSpec.ofChange termsShorterSpec)) termsShorterCard

/-- THE TIED CARD OF 'tourbillonlaw08.TermsTexts'. -/
def termsTextsCard : Claim7 := { stood := { row := termsTextsRow, standIns := [], harness := (true, "878c0e2d82480dbe5aa558f92d075ec08aeaecc2fd5667be45bf9b61d366679f"), looks := true }, kinds := [], alts := [], laidByText := true, laidKinds := [.data, .data, .data, .data, .sentinel, .sentinel, .listed, .data, .pinned], laidTests := true, laidLooks := .later }
def TermsTextsCardSaid : Prop := Claim7.holds Tryz.pinned (.plain (OpenSpec.ofChange termsTextsSpec)) termsTextsCard

/-- THE SECOND FORM's CARD OF 'tourbillontop.TopRead'. -/
def topReadUptoCard : Claim7 := { stood := { row := topReadUptoRow, standIns := [], harness := (true, "878c0e2d82480dbe5aa558f92d075ec08aeaecc2fd5667be45bf9b61d366679f"), looks := true }, kinds := [], alts := [], laidByText := true, laidKinds := [.data, .data, .data, .data, .sentinel, .sentinel, .listed, .data, .pinned], laidTests := true, laidLooks := .later }
def TopReadUptoCardSaid : Prop := Claim7.holds Tryz.pinned (.plain (OpenSpec.upto topReadSpec)) topReadUptoCard

/-- THE SECOND FORM's CARD OF 'tourbillonlaw08.TermsSteps'. -/
def termsStepsUptoCard : Claim7 := { stood := { row := termsStepsUptoRow, standIns := [], harness := (true, "878c0e2d82480dbe5aa558f92d075ec08aeaecc2fd5667be45bf9b61d366679f"), looks := true }, kinds := [], alts := [], laidByText := true, laidKinds := [.data, .data, .data, .data, .sentinel, .sentinel, .listed, .data, .pinned], laidTests := true, laidLooks := .later }
def TermsStepsUptoCardSaid : Prop := Claim7.holds Tryz.pinned (.plain (OpenSpec.upto termsStepsSpec)) termsStepsUptoCard

/-- THE SECOND FORM's CARD OF 'tourbillonlaw08.TermsClones'. -/
def termsClonesUptoCard : Claim7 := { stood := { row := termsClonesUptoRow, standIns := [], harness := (true, "878c0e2d82480dbe5aa558f92d075ec08aeaecc2fd5667be45bf9b61d366679f"), looks := true }, kinds := [], alts := [], laidByText := true, laidKinds := [.data, .data, .data, .data, .sentinel, .sentinel, .listed, .data, .pinned], laidTests := true, laidLooks := .later }
def TermsClonesUptoCardSaid : Prop := Claim7.holds Tryz.pinned (.plain (OpenSpec.upto termsClonesSpec)) termsClonesUptoCard

/-- THE SECOND FORM's CARD OF 'tourbillonlaw08.TermsAgrees'. -/
def termsAgreesUptoCard : Claim7 := { stood := { row := termsAgreesUptoRow, standIns := [], harness := (true, "878c0e2d82480dbe5aa558f92d075ec08aeaecc2fd5667be45bf9b61d366679f"), looks := true }, kinds := [], alts := [], laidByText := true, laidKinds := [.data, .data, .data, .data, .sentinel, .sentinel, .listed, .data, .pinned], laidTests := true, laidLooks := .later }
def TermsAgreesUptoCardSaid : Prop := Claim7.holds Tryz.pinned (.plain (OpenSpec.upto termsAgreesSpec)) termsAgreesUptoCard

/-- THE SECOND FORM's CARD OF 'tourbillonlaw08.TermsProof'. -/
def termsProofUptoCard : Claim7 := { stood := { row := termsProofUptoRow, standIns := [], harness := (true, "878c0e2d82480dbe5aa558f92d075ec08aeaecc2fd5667be45bf9b61d366679f"), looks := true }, kinds := [], alts := [], laidByText := true, laidKinds := [.data, .data, .data, .data, .sentinel, .sentinel, .listed, .data, .pinned], laidTests := true, laidLooks := .later }
def TermsProofUptoCardSaid : Prop := Claim7.holds Tryz.pinned (.plain (OpenSpec.upto termsProofSpec)) termsProofUptoCard

/-- THE SECOND FORM's CARD OF 'tourbillonlaw08.TermsLaws'. -/
def termsLawsUptoCard : Claim7 := { stood := { row := termsLawsUptoRow, standIns := [], harness := (true, "878c0e2d82480dbe5aa558f92d075ec08aeaecc2fd5667be45bf9b61d366679f"), looks := true }, kinds := [], alts := [], laidByText := true, laidKinds := [.data, .data, .data, .data, .sentinel, .sentinel, .listed, .data, .pinned], laidTests := true, laidLooks := .later }
def TermsLawsUptoCardSaid : Prop := Claim7.holds Tryz.pinned (.plain (OpenSpec.upto termsLawsSpec)) termsLawsUptoCard

/-- THE SECOND FORM's CARD OF 'tourbillonlaw08.TermsShorter'. -/
def termsShorterUptoCard : Claim7 := { stood := { row := termsShorterUptoRow, standIns := [], harness := (true, "878c0e2d82480dbe5aa558f92d075ec08aeaecc2fd5667be45bf9b61d366679f"), looks := true }, kinds := [], alts := [], laidByText := true, laidKinds := [.data, .data, .data, .data, .sentinel, .sentinel, .listed, .data, .pinned], laidTests := true, laidLooks := .later }
def TermsShorterUptoCardSaid : Prop := Claim7.holds Tryz.pinned (.plain (OpenSpec.upto termsShorterSpec)) termsShorterUptoCard

/-- THE SECOND FORM's CARD OF 'tourbillonlaw08.TermsTexts'. -/
def termsTextsUptoCard : Claim7 := { stood := { row := termsTextsUptoRow, standIns := [], harness := (true, "878c0e2d82480dbe5aa558f92d075ec08aeaecc2fd5667be45bf9b61d366679f"), looks := true }, kinds := [], alts := [], laidByText := true, laidKinds := [.data, .data, .data, .data, .sentinel, .sentinel, .listed, .data, .pinned], laidTests := true, laidLooks := .later }
def TermsTextsUptoCardSaid : Prop := Claim7.holds Tryz.pinned (.plain (OpenSpec.upto termsTextsSpec)) termsTextsUptoCard
end Rows
end Go.Proofs.YtobpacebpiabcaaGreatDoor
