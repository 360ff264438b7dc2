/-
  DERIVED. GIVEN WITH THE SEED: THE CARDS: each row of YtjkilpjdgjijiaaDoorRows.lean that lists a variable, with what it lists TIED to the program's text (the seventh form; the later family's looks); each row that meets fmt, with fmt's text TOLD by the authors' own Lean function (tested against real Go, not proved from fmt's source: count such statements apart). THE CARD IS WHAT COUNTS. Prove the row's statement (the work); the ties are given (YtjkilpjdgjijiaaDoorTie.lean); close each card by the builder's one call (the guide's Derived/Test/ToyasCard.lean, 'card_holds'). Laid BY PROGRAM, IN A SANDBOX (cutbox-door.mjs). By AI agents, Wed Nov 11 2026. No macro, syntax, notation, axiom, sorry.
-/
import Derived.Test.YtjkilpjdgjijiaaDoorRows
import GoSem.ClaimSeven
namespace Go.Proofs.YtjkilpjdgjijiaaDoor
namespace Rows

/-- THE TIED CARD OF 'tidelinelaw05.CallReads'. -/
def callReadsCard : Claim7 := { stood := { row := callReadsRow, standIns := [], harness := (true, "cac50371c112228786309a64826be99969d9b9f74620e7624aed1c9c93bf1bc1"), looks := false }, kinds := [], alts := [], laidByText := true, laidKinds := [.data, .data, .pinned], laidTests := true, laidLooks := .later }
def CallReadsCardSaid : Prop := Claim7.holds Tryd.pinned (.plain (OpenSpec.ofChange callReadsSpec)) callReadsCard

/-- THE TIED CARD OF 'tidelinelaw05.CallCodes'. -/
def callCodesCard : Claim7 := { stood := { row := callCodesRow, standIns := [], harness := (true, "cac50371c112228786309a64826be99969d9b9f74620e7624aed1c9c93bf1bc1"), looks := false }, kinds := [], alts := [], laidByText := true, laidKinds := [.data, .data, .pinned], laidTests := true, laidLooks := .later }
def CallCodesCardSaid : Prop := Claim7.holds Tryd.pinned (.plain (OpenSpec.ofChange callCodesSpec)) callCodesCard

/-- THE TIED CARD OF 'tidelinelaw05.CallAnswers'. -/
def callAnswersCard : Claim7 := { stood := { row := callAnswersRow, standIns := [], harness := (true, "cac50371c112228786309a64826be99969d9b9f74620e7624aed1c9c93bf1bc1"), looks := false }, kinds := [], alts := [], laidByText := true, laidKinds := [.data, .data, .pinned], laidTests := true, laidLooks := .later }
def CallAnswersCardSaid : Prop := Claim7.holds Tryd.pinned (.plain (OpenSpec.ofChange callAnswersSpec)) callAnswersCard

/-- THE SECOND FORM's CARD OF 'tidelinelaw05.CallReads'. -/
def callReadsUptoCard : Claim7 := { stood := { row := callReadsUptoRow, standIns := [], harness := (true, "cac50371c112228786309a64826be99969d9b9f74620e7624aed1c9c93bf1bc1"), looks := false }, kinds := [], alts := [], laidByText := true, laidKinds := [.data, .data, .pinned], laidTests := true, laidLooks := .later }
def CallReadsUptoCardSaid : Prop := Claim7.holds Tryd.pinned (.plain (OpenSpec.upto callReadsSpec)) callReadsUptoCard

/-- THE SECOND FORM's CARD OF 'tidelinelaw05.CallCodes'. -/
def callCodesUptoCard : Claim7 := { stood := { row := callCodesUptoRow, standIns := [], harness := (true, "cac50371c112228786309a64826be99969d9b9f74620e7624aed1c9c93bf1bc1"), looks := false }, kinds := [], alts := [], laidByText := true, laidKinds := [.data, .data, .pinned], laidTests := true, laidLooks := .later }
def CallCodesUptoCardSaid : Prop := Claim7.holds Tryd.pinned (.plain (OpenSpec.upto callCodesSpec)) callCodesUptoCard

/-- THE SECOND FORM's CARD OF 'tidelinelaw05.CallAnswers'. -/
def callAnswersUptoCard : Claim7 := { stood := { row := callAnswersUptoRow, standIns := [], harness := (true, "cac50371c112228786309a64826be99969d9b9f74620e7624aed1c9c93bf1bc1"), looks := false }, kinds := [], alts := [], laidByText := true, laidKinds := [.data, .data, .pinned], laidTests := true, laidLooks := .later }
def CallAnswersUptoCardSaid : Prop := Claim7.holds Tryd.pinned (.plain (OpenSpec.upto callAnswersSpec)) callAnswersUptoCard
end Rows
end Go.Proofs.YtjkilpjdgjijiaaDoor
