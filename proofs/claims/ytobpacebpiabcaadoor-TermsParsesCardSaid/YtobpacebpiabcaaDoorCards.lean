/-
  DERIVED. GIVEN WITH THE SEED: THE CARDS: each row of YtobpacebpiabcaaDoorRows.lean that lists a variable, with what it lists TIED to the program's text (the seventh form; the later family's looks); each row that meets fmt, with fmt's text TOLD by the authors' own Lean function (tested against real Go, not proved from fmt's source: count such statements apart). THE CARD IS WHAT COUNTS. Prove the row's statement (the work); the ties are given (YtobpacebpiabcaaDoorTie.lean); close each card by the builder's one call (the guide's Derived/Test/ToyasCard.lean, 'card_holds'). Laid BY PROGRAM, IN A SANDBOX (cutbox-door.mjs). By AI agents, Wed Nov 11 2026. No macro, syntax, notation, axiom, sorry.
-/
import Derived.Test.YtobpacebpiabcaaDoorRows
import GoSem.ClaimSeven
namespace Go.Proofs.YtobpacebpiabcaaDoor
namespace Rows

/-- THE TIED CARD OF 'tourbillonlaw08.TermsPast'. -/
def termsPastCard : Claim7 := { stood := { row := termsPastRow, standIns := [], harness := (true, "63bcce22e55bb277af052d38507039b8a2ce57e988ce5dfb304f3a346a649bc9"), looks := true }, kinds := [], alts := [], laidByText := true, laidKinds := [.data, .data, .data, .data, .sentinel, .sentinel, .listed, .data, .pinned], laidTests := true, laidLooks := .later }
def TermsPastCardSaid : Prop := Claim7.holds Tryd.pinned (.plain (OpenSpec.ofChange termsPastSpec)) termsPastCard

/-- THE TIED CARD OF 'tourbillonlaw08.TermsDays'. -/
def termsDaysCard : Claim7 := { stood := { row := termsDaysRow, standIns := [], harness := (true, "63bcce22e55bb277af052d38507039b8a2ce57e988ce5dfb304f3a346a649bc9"), looks := true }, kinds := [], alts := [], laidByText := true, laidKinds := [.data, .data, .data, .data, .sentinel, .sentinel, .listed, .data, .pinned], laidTests := true, laidLooks := .later }
def TermsDaysCardSaid : Prop := Claim7.holds Tryd.pinned (.plain (OpenSpec.ofChange termsDaysSpec)) termsDaysCard

/-- THE TIED CARD OF 'tourbillonlaw08.TermsChecks'. -/
def termsChecksCard : Claim7 := { stood := { row := termsChecksRow, standIns := [], harness := (true, "63bcce22e55bb277af052d38507039b8a2ce57e988ce5dfb304f3a346a649bc9"), looks := true }, kinds := [], alts := [], laidByText := true, laidKinds := [.data, .data, .data, .data, .sentinel, .sentinel, .listed, .data, .pinned], laidTests := true, laidLooks := .later }
def TermsChecksCardSaid : Prop := Claim7.holds Tryd.pinned (.plain (OpenSpec.ofChange termsChecksSpec)) termsChecksCard

/-- THE TIED CARD OF 'tourbillonlaw08.TermsParses'. -/
def termsParsesCard : Claim7 := { stood := { row := termsParsesRow, standIns := [], harness := (true, "63bcce22e55bb277af052d38507039b8a2ce57e988ce5dfb304f3a346a649bc9"), looks := true }, kinds := [], alts := [], laidByText := true, laidKinds := [.data, .data, .data, .data, .sentinel, .sentinel, .listed, .data, .pinned], laidTests := true, laidLooks := .later }
def TermsParsesCardSaid : Prop := Claim7.holds Tryd.pinned (.plain (OpenSpec.ofChange termsParsesSpec)) termsParsesCard

/-- THE TIED CARD OF 'tourbillonlaw08.TermsWatches'. -/
def termsWatchesCard : Claim7 := { stood := { row := termsWatchesRow, standIns := [], harness := (true, "63bcce22e55bb277af052d38507039b8a2ce57e988ce5dfb304f3a346a649bc9"), looks := true }, kinds := [], alts := [], laidByText := true, laidKinds := [.data, .data, .data, .data, .sentinel, .sentinel, .listed, .data, .pinned], laidTests := true, laidLooks := .later }
def TermsWatchesCardSaid : Prop := Claim7.holds Tryd.pinned (.plain (OpenSpec.ofChange termsWatchesSpec)) termsWatchesCard

/-- THE TIED CARD OF 'tourbillonlaw08.TermsNobody'. -/
def termsNobodyCard : Claim7 := { stood := { row := termsNobodyRow, standIns := [], harness := (true, "63bcce22e55bb277af052d38507039b8a2ce57e988ce5dfb304f3a346a649bc9"), looks := true }, kinds := [], alts := [], laidByText := true, laidKinds := [.data, .data, .data, .data, .sentinel, .sentinel, .listed, .data, .pinned], laidTests := true, laidLooks := .later }
def TermsNobodyCardSaid : Prop := Claim7.holds Tryd.pinned (.plain (OpenSpec.ofChange termsNobodySpec)) termsNobodyCard

/-- THE TIED CARD OF 'tourbillonlaw08.TermsLittle'. -/
def termsLittleCard : Claim7 := { stood := { row := termsLittleRow, standIns := [], harness := (true, "63bcce22e55bb277af052d38507039b8a2ce57e988ce5dfb304f3a346a649bc9"), looks := true }, kinds := [], alts := [], laidByText := true, laidKinds := [.data, .data, .data, .data, .sentinel, .sentinel, .listed, .data, .pinned], laidTests := true, laidLooks := .later }
def TermsLittleCardSaid : Prop := Claim7.holds Tryd.pinned (.plain (OpenSpec.ofChange termsLittleSpec)) termsLittleCard

/-- THE SECOND FORM's CARD OF 'tourbillonlaw08.TermsPast'. -/
def termsPastUptoCard : Claim7 := { stood := { row := termsPastUptoRow, standIns := [], harness := (true, "63bcce22e55bb277af052d38507039b8a2ce57e988ce5dfb304f3a346a649bc9"), looks := true }, kinds := [], alts := [], laidByText := true, laidKinds := [.data, .data, .data, .data, .sentinel, .sentinel, .listed, .data, .pinned], laidTests := true, laidLooks := .later }
def TermsPastUptoCardSaid : Prop := Claim7.holds Tryd.pinned (.plain (OpenSpec.upto termsPastSpec)) termsPastUptoCard

/-- THE SECOND FORM's CARD OF 'tourbillonlaw08.TermsDays'. -/
def termsDaysUptoCard : Claim7 := { stood := { row := termsDaysUptoRow, standIns := [], harness := (true, "63bcce22e55bb277af052d38507039b8a2ce57e988ce5dfb304f3a346a649bc9"), looks := true }, kinds := [], alts := [], laidByText := true, laidKinds := [.data, .data, .data, .data, .sentinel, .sentinel, .listed, .data, .pinned], laidTests := true, laidLooks := .later }
def TermsDaysUptoCardSaid : Prop := Claim7.holds Tryd.pinned (.plain (OpenSpec.upto termsDaysSpec)) termsDaysUptoCard

/-- THE SECOND FORM's CARD OF 'tourbillonlaw08.TermsChecks'. -/
def termsChecksUptoCard : Claim7 := { stood := { row := termsChecksUptoRow, standIns := [], harness := (true, "63bcce22e55bb277af052d38507039b8a2ce57e988ce5dfb304f3a346a649bc9"), looks := true }, kinds := [], alts := [], laidByText := true, laidKinds := [.data, .data, .data, .data, .sentinel, .sentinel, .listed, .data, .pinned], laidTests := true, laidLooks := .later }
def TermsChecksUptoCardSaid : Prop := Claim7.holds Tryd.pinned (.plain (OpenSpec.upto termsChecksSpec)) termsChecksUptoCard

/-- THE SECOND FORM's CARD OF 'tourbillonlaw08.TermsParses'. -/
def termsParsesUptoCard : Claim7 := { stood := { row := termsParsesUptoRow, standIns := [], harness := (true, "63bcce22e55bb277af052d38507039b8a2ce57e988ce5dfb304f3a346a649bc9"), looks := true }, kinds := [], alts := [], laidByText := true, laidKinds := [.data, .data, .data, .data, .sentinel, .sentinel, .listed, .data, .pinned], laidTests := true, laidLooks := .later }
def TermsParsesUptoCardSaid : Prop := Claim7.holds Tryd.pinned (.plain (OpenSpec.upto termsParsesSpec)) termsParsesUptoCard

/-- THE SECOND FORM's CARD OF 'tourbillonlaw08.TermsWatches'. -/
def termsWatchesUptoCard : Claim7 := { stood := { row := termsWatchesUptoRow, standIns := [], harness := (true, "63bcce22e55bb277af052d38507039b8a2ce57e988ce5dfb304f3a346a649bc9"), looks := true }, kinds := [], alts := [], laidByText := true, laidKinds := [.data, .data, .data, .data, .sentinel, .sentinel, .listed, .data, .pinned], laidTests := true, laidLooks := .later }
def TermsWatchesUptoCardSaid : Prop := Claim7.holds Tryd.pinned (.plain (OpenSpec.upto termsWatchesSpec)) termsWatchesUptoCard

/-- THE SECOND FORM's CARD OF 'tourbillonlaw08.TermsNobody'. -/
def termsNobodyUptoCard : Claim7 := { stood := { row := termsNobodyUptoRow, standIns := [], harness := (true, "63bcce22e55bb277af052d38507039b8a2ce57e988ce5dfb304f3a346a649bc9"), looks := true }, kinds := [], alts := [], laidByText := true, laidKinds := [.data, .data, .data, .data, .sentinel, .sentinel, .listed, .data, .pinned], laidTests := true, laidLooks := .later }
def TermsNobodyUptoCardSaid : Prop := Claim7.holds Tryd.pinned (.plain (OpenSpec.upto termsNobodySpec)) termsNobodyUptoCard

/-- THE SECOND FORM's CARD OF 'tourbillonlaw08.TermsLittle'. -/
def termsLittleUptoCard : Claim7 := { stood := { row := termsLittleUptoRow, standIns := [], harness := (true, "63bcce22e55bb277af052d38507039b8a2ce57e988ce5dfb304f3a346a649bc9"), looks := true }, kinds := [], alts := [], laidByText := true, laidKinds := [.data, .data, .data, .data, .sentinel, .sentinel, .listed, .data, .pinned], laidTests := true, laidLooks := .later }
def TermsLittleUptoCardSaid : Prop := Claim7.holds Tryd.pinned (.plain (OpenSpec.upto termsLittleSpec)) termsLittleUptoCard
end Rows
end Go.Proofs.YtobpacebpiabcaaDoor
