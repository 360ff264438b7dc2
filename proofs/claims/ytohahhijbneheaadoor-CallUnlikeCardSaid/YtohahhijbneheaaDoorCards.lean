/-
  DERIVED. GIVEN WITH THE SEED: THE CARDS: each row of YtohahhijbneheaaDoorRows.lean that lists a variable, with what it lists TIED to the program's text (the seventh form; the later family's looks); each row that meets fmt, with fmt's text TOLD by the authors' own Lean function (tested against real Go, not proved from fmt's source: count such statements apart). THE CARD IS WHAT COUNTS. Prove the row's statement (the work); the ties are given (YtohahhijbneheaaDoorTie.lean); close each card by the builder's one call (the guide's Derived/Test/ToyasCard.lean, 'card_holds'). Laid BY PROGRAM, IN A SANDBOX (cutbox-door.mjs). By AI agents, Wed Nov 11 2026. No macro, syntax, notation, axiom, sorry.
-/
import Derived.Test.YtohahhijbneheaaDoorRows
import GoSem.ClaimSeven
namespace Go.Proofs.YtohahhijbneheaaDoor
namespace Rows

/-- THE TIED CARD OF 'tidelinelaw11.PlanTold'. -/
def planToldCard : Claim7 := { stood := { row := planToldRow, standIns := [], harness := (true, "f65f2dde7006115e638cf2f7eadc7de91b2578007121b1996ff497c40e9f9cc2"), looks := false }, kinds := [], alts := [], laidByText := true, laidKinds := [.data], laidTests := true, laidLooks := .later }
def PlanToldCardSaid : Prop := Claim7.holds Tryd.pinned (.plain (OpenSpec.ofChange planToldSpec)) planToldCard

/-- THE TIED CARD OF 'tidelinelaw11.PlanReads'. -/
def planReadsCard : Claim7 := { stood := { row := planReadsRow, standIns := [], harness := (true, "f65f2dde7006115e638cf2f7eadc7de91b2578007121b1996ff497c40e9f9cc2"), looks := false }, kinds := [], alts := [], laidByText := true, laidKinds := [.data], laidTests := true, laidLooks := .later }
def PlanReadsCardSaid : Prop := Claim7.holds Tryd.pinned (.plain (OpenSpec.ofChange planReadsSpec)) planReadsCard

/-- THE TIED CARD OF 'tidelinelaw05.CallUnlike'. -/
def callUnlikeCard : Claim7 := { stood := { row := callUnlikeRow, standIns := [], harness := (true, "f65f2dde7006115e638cf2f7eadc7de91b2578007121b1996ff497c40e9f9cc2"), looks := false }, kinds := [], alts := [], laidByText := true, laidKinds := [.data, .data, .pinned], laidTests := true, laidLooks := .later }
def CallUnlikeCardSaid : Prop := Claim7.holds Tryd.pinned (.plain (OpenSpec.ofChange callUnlikeSpec)) callUnlikeCard

/-- THE TIED CARD OF 'tidelinelaw05.CallReads'. -/
def callReadsCard : Claim7 := { stood := { row := callReadsRow, standIns := [], harness := (true, "f65f2dde7006115e638cf2f7eadc7de91b2578007121b1996ff497c40e9f9cc2"), looks := false }, kinds := [], alts := [], laidByText := true, laidKinds := [.data, .data, .pinned], laidTests := true, laidLooks := .later }
def CallReadsCardSaid : Prop := Claim7.holds Tryd.pinned (.plain (OpenSpec.ofChange callReadsSpec)) callReadsCard

/-- THE TIED CARD OF 'tidelinelaw05.CallCodes'. -/
def callCodesCard : Claim7 := { stood := { row := callCodesRow, standIns := [], harness := (true, "f65f2dde7006115e638cf2f7eadc7de91b2578007121b1996ff497c40e9f9cc2"), looks := false }, kinds := [], alts := [], laidByText := true, laidKinds := [.data, .data, .pinned], laidTests := true, laidLooks := .later }
def CallCodesCardSaid : Prop := Claim7.holds Tryd.pinned (.plain (OpenSpec.ofChange callCodesSpec)) callCodesCard

/-- THE TIED CARD OF 'tidelinelaw05.CallAnswers'. -/
def callAnswersCard : Claim7 := { stood := { row := callAnswersRow, standIns := [], harness := (true, "f65f2dde7006115e638cf2f7eadc7de91b2578007121b1996ff497c40e9f9cc2"), looks := false }, kinds := [], alts := [], laidByText := true, laidKinds := [.data, .data, .pinned], laidTests := true, laidLooks := .later }
def CallAnswersCardSaid : Prop := Claim7.holds Tryd.pinned (.plain (OpenSpec.ofChange callAnswersSpec)) callAnswersCard

/-- THE SECOND FORM's CARD OF 'tidelinelaw11.PlanTold'. -/
def planToldUptoCard : Claim7 := { stood := { row := planToldUptoRow, standIns := [], harness := (true, "f65f2dde7006115e638cf2f7eadc7de91b2578007121b1996ff497c40e9f9cc2"), looks := false }, kinds := [], alts := [], laidByText := true, laidKinds := [.data], laidTests := true, laidLooks := .later }
def PlanToldUptoCardSaid : Prop := Claim7.holds Tryd.pinned (.plain (OpenSpec.upto planToldSpec)) planToldUptoCard

/-- THE SECOND FORM's CARD OF 'tidelinelaw11.PlanReads'. -/
def planReadsUptoCard : Claim7 := { stood := { row := planReadsUptoRow, standIns := [], harness := (true, "f65f2dde7006115e638cf2f7eadc7de91b2578007121b1996ff497c40e9f9cc2"), looks := false }, kinds := [], alts := [], laidByText := true, laidKinds := [.data], laidTests := true, laidLooks := .later }
def PlanReadsUptoCardSaid : Prop := Claim7.holds Tryd.pinned (.plain (OpenSpec.upto planReadsSpec)) planReadsUptoCard

/-- THE SECOND FORM's CARD OF 'tidelinelaw05.CallUnlike'. -/
def callUnlikeUptoCard : Claim7 := { stood := { row := callUnlikeUptoRow, standIns := [], harness := (true, "f65f2dde7006115e638cf2f7eadc7de91b2578007121b1996ff497c40e9f9cc2"), looks := false }, kinds := [], alts := [], laidByText := true, laidKinds := [.data, .data, .pinned], laidTests := true, laidLooks := .later }
def CallUnlikeUptoCardSaid : Prop := Claim7.holds Tryd.pinned (.plain (OpenSpec.upto callUnlikeSpec)) callUnlikeUptoCard

/-- THE SECOND FORM's CARD OF 'tidelinelaw05.CallReads'. -/
def callReadsUptoCard : Claim7 := { stood := { row := callReadsUptoRow, standIns := [], harness := (true, "f65f2dde7006115e638cf2f7eadc7de91b2578007121b1996ff497c40e9f9cc2"), looks := false }, kinds := [], alts := [], laidByText := true, laidKinds := [.data, .data, .pinned], laidTests := true, laidLooks := .later }
def CallReadsUptoCardSaid : Prop := Claim7.holds Tryd.pinned (.plain (OpenSpec.upto callReadsSpec)) callReadsUptoCard

/-- THE SECOND FORM's CARD OF 'tidelinelaw05.CallCodes'. -/
def callCodesUptoCard : Claim7 := { stood := { row := callCodesUptoRow, standIns := [], harness := (true, "f65f2dde7006115e638cf2f7eadc7de91b2578007121b1996ff497c40e9f9cc2"), looks := false }, kinds := [], alts := [], laidByText := true, laidKinds := [.data, .data, .pinned], laidTests := true, laidLooks := .later }
def CallCodesUptoCardSaid : Prop := Claim7.holds Tryd.pinned (.plain (OpenSpec.upto callCodesSpec)) callCodesUptoCard

/-- THE SECOND FORM's CARD OF 'tidelinelaw05.CallAnswers'. -/
def callAnswersUptoCard : Claim7 := { stood := { row := callAnswersUptoRow, standIns := [], harness := (true, "f65f2dde7006115e638cf2f7eadc7de91b2578007121b1996ff497c40e9f9cc2"), looks := false }, kinds := [], alts := [], laidByText := true, laidKinds := [.data, .data, .pinned], laidTests := true, laidLooks := .later }
def CallAnswersUptoCardSaid : Prop := Claim7.holds Tryd.pinned (.plain (OpenSpec.upto callAnswersSpec)) callAnswersUptoCard
end Rows
end Go.Proofs.YtohahhijbneheaaDoor
