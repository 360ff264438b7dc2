/-
  DERIVED. GIVEN WITH THE SEED: THE CARDS: each row of YtiglgepbffcdeaaDoorRows.lean that lists a variable, with what it lists TIED to the program's text (the seventh form; the later family's looks); each row that meets fmt, with fmt's text TOLD by the authors' own Lean function (tested against real Go, not proved from fmt's source: count such statements apart). THE CARD IS WHAT COUNTS. Prove the row's statement (the work); the ties are given (YtiglgepbffcdeaaDoorTie.lean); close each card by the builder's one call (the guide's Derived/Test/ToyasCard.lean, 'card_holds'). Laid BY PROGRAM, IN A SANDBOX (cutbox-door.mjs). By AI agents, Wed Nov 11 2026. No macro, syntax, notation, axiom, sorry.
-/
import Derived.Test.YtiglgepbffcdeaaDoorRows
import GoSem.ClaimSeven
namespace Go.Proofs.YtiglgepbffcdeaaDoor
namespace Rows

/-- THE TIED CARD OF 'tidelinelaw13.NetFull'. -/
def netFullCard : Claim7 := { stood := { row := netFullRow, standIns := [], harness := (true, "551747f758a587d9450db9c00a825df00679b14f92664362eb8d36a930dd416f"), looks := false }, kinds := [], alts := [], laidByText := true, laidKinds := [.data], laidTests := true, laidLooks := .later }
def NetFullCardSaid : Prop := Claim7.holds Tryd.pinned (.plain (OpenSpec.ofChange netFullSpec)) netFullCard

/-- THE TIED CARD OF 'tidelinelaw11.PlanTold'. -/
def planToldCard : Claim7 := { stood := { row := planToldRow, standIns := [], harness := (true, "551747f758a587d9450db9c00a825df00679b14f92664362eb8d36a930dd416f"), looks := false }, kinds := [], alts := [], laidByText := true, laidKinds := [.data], laidTests := true, laidLooks := .later }
def PlanToldCardSaid : Prop := Claim7.holds Tryd.pinned (.plain (OpenSpec.ofChange planToldSpec)) planToldCard

/-- THE TIED CARD OF 'tidelinelaw13.NetEmpties'. -/
def netEmptiesCard : Claim7 := { stood := { row := netEmptiesRow, standIns := [], harness := (true, "551747f758a587d9450db9c00a825df00679b14f92664362eb8d36a930dd416f"), looks := false }, kinds := [], alts := [], laidByText := true, laidKinds := [.data], laidTests := true, laidLooks := .later }
def NetEmptiesCardSaid : Prop := Claim7.holds Tryd.pinned (.plain (OpenSpec.ofChange netEmptiesSpec)) netEmptiesCard

/-- THE TIED CARD OF 'tidelinelaw13.NetCalls'. -/
def netCallsCard : Claim7 := { stood := { row := netCallsRow, standIns := [], harness := (true, "551747f758a587d9450db9c00a825df00679b14f92664362eb8d36a930dd416f"), looks := false }, kinds := [], alts := [], laidByText := true, laidKinds := [.data], laidTests := true, laidLooks := .later }
def NetCallsCardSaid : Prop := Claim7.holds Tryd.pinned (.plain (OpenSpec.ofChange netCallsSpec)) netCallsCard

/-- THE TIED CARD OF 'tidelinelaw11.PlanReads'. -/
def planReadsCard : Claim7 := { stood := { row := planReadsRow, standIns := [], harness := (true, "551747f758a587d9450db9c00a825df00679b14f92664362eb8d36a930dd416f"), looks := false }, kinds := [], alts := [], laidByText := true, laidKinds := [.data], laidTests := true, laidLooks := .later }
def PlanReadsCardSaid : Prop := Claim7.holds Tryd.pinned (.plain (OpenSpec.ofChange planReadsSpec)) planReadsCard

/-- THE TIED CARD OF 'tidelinelaw05.CallUnlike'. -/
def callUnlikeCard : Claim7 := { stood := { row := callUnlikeRow, standIns := [], harness := (true, "551747f758a587d9450db9c00a825df00679b14f92664362eb8d36a930dd416f"), looks := false }, kinds := [], alts := [], laidByText := true, laidKinds := [.data, .data, .pinned], laidTests := true, laidLooks := .later }
def CallUnlikeCardSaid : Prop := Claim7.holds Tryd.pinned (.plain (OpenSpec.ofChange callUnlikeSpec)) callUnlikeCard

/-- THE TIED CARD OF 'tidelinelaw05.CallReads'. -/
def callReadsCard : Claim7 := { stood := { row := callReadsRow, standIns := [], harness := (true, "551747f758a587d9450db9c00a825df00679b14f92664362eb8d36a930dd416f"), looks := false }, kinds := [], alts := [], laidByText := true, laidKinds := [.data, .data, .pinned], laidTests := true, laidLooks := .later }
def CallReadsCardSaid : Prop := Claim7.holds Tryd.pinned (.plain (OpenSpec.ofChange callReadsSpec)) callReadsCard

/-- THE TIED CARD OF 'tidelinelaw05.CallCodes'. -/
def callCodesCard : Claim7 := { stood := { row := callCodesRow, standIns := [], harness := (true, "551747f758a587d9450db9c00a825df00679b14f92664362eb8d36a930dd416f"), looks := false }, kinds := [], alts := [], laidByText := true, laidKinds := [.data, .data, .pinned], laidTests := true, laidLooks := .later }
def CallCodesCardSaid : Prop := Claim7.holds Tryd.pinned (.plain (OpenSpec.ofChange callCodesSpec)) callCodesCard

/-- THE TIED CARD OF 'tidelinelaw05.CallAnswers'. -/
def callAnswersCard : Claim7 := { stood := { row := callAnswersRow, standIns := [], harness := (true, "551747f758a587d9450db9c00a825df00679b14f92664362eb8d36a930dd416f"), looks := false }, kinds := [], alts := [], laidByText := true, laidKinds := [.data, .data, .pinned], laidTests := true, laidLooks := .later }
def CallAnswersCardSaid : Prop := Claim7.holds Tryd.pinned (.plain (OpenSpec.ofChange callAnswersSpec)) callAnswersCard

/-- THE SECOND FORM's CARD OF 'tidelinelaw13.NetFull'. -/
def netFullUptoCard : Claim7 := { stood := { row := netFullUptoRow, standIns := [], harness := (true, "551747f758a587d9450db9c00a825df00679b14f92664362eb8d36a930dd416f"), looks := false }, kinds := [], alts := [], laidByText := true, laidKinds := [.data], laidTests := true, laidLooks := .later }
def NetFullUptoCardSaid : Prop := Claim7.holds Tryd.pinned (.plain (OpenSpec.upto netFullSpec)) netFullUptoCard

/-- THE SECOND FORM's CARD OF 'tidelinelaw11.PlanTold'. -/
def planToldUptoCard : Claim7 := { stood := { row := planToldUptoRow, standIns := [], harness := (true, "551747f758a587d9450db9c00a825df00679b14f92664362eb8d36a930dd416f"), looks := false }, kinds := [], alts := [], laidByText := true, laidKinds := [.data], laidTests := true, laidLooks := .later }
def PlanToldUptoCardSaid : Prop := Claim7.holds Tryd.pinned (.plain (OpenSpec.upto planToldSpec)) planToldUptoCard

/-- THE SECOND FORM's CARD OF 'tidelinelaw13.NetEmpties'. -/
def netEmptiesUptoCard : Claim7 := { stood := { row := netEmptiesUptoRow, standIns := [], harness := (true, "551747f758a587d9450db9c00a825df00679b14f92664362eb8d36a930dd416f"), looks := false }, kinds := [], alts := [], laidByText := true, laidKinds := [.data], laidTests := true, laidLooks := .later }
def NetEmptiesUptoCardSaid : Prop := Claim7.holds Tryd.pinned (.plain (OpenSpec.upto netEmptiesSpec)) netEmptiesUptoCard

/-- THE SECOND FORM's CARD OF 'tidelinelaw13.NetCalls'. -/
def netCallsUptoCard : Claim7 := { stood := { row := netCallsUptoRow, standIns := [], harness := (true, "551747f758a587d9450db9c00a825df00679b14f92664362eb8d36a930dd416f"), looks := false }, kinds := [], alts := [], laidByText := true, laidKinds := [.data], laidTests := true, laidLooks := .later }
def NetCallsUptoCardSaid : Prop := Claim7.holds Tryd.pinned (.plain (OpenSpec.upto netCallsSpec)) netCallsUptoCard

/-- THE SECOND FORM's CARD OF 'tidelinelaw11.PlanReads'. -/
def planReadsUptoCard : Claim7 := { stood := { row := planReadsUptoRow, standIns := [], harness := (true, "551747f758a587d9450db9c00a825df00679b14f92664362eb8d36a930dd416f"), looks := false }, kinds := [], alts := [], laidByText := true, laidKinds := [.data], laidTests := true, laidLooks := .later }
def PlanReadsUptoCardSaid : Prop := Claim7.holds Tryd.pinned (.plain (OpenSpec.upto planReadsSpec)) planReadsUptoCard

/-- THE SECOND FORM's CARD OF 'tidelinelaw05.CallUnlike'. -/
def callUnlikeUptoCard : Claim7 := { stood := { row := callUnlikeUptoRow, standIns := [], harness := (true, "551747f758a587d9450db9c00a825df00679b14f92664362eb8d36a930dd416f"), looks := false }, kinds := [], alts := [], laidByText := true, laidKinds := [.data, .data, .pinned], laidTests := true, laidLooks := .later }
def CallUnlikeUptoCardSaid : Prop := Claim7.holds Tryd.pinned (.plain (OpenSpec.upto callUnlikeSpec)) callUnlikeUptoCard

/-- THE SECOND FORM's CARD OF 'tidelinelaw05.CallReads'. -/
def callReadsUptoCard : Claim7 := { stood := { row := callReadsUptoRow, standIns := [], harness := (true, "551747f758a587d9450db9c00a825df00679b14f92664362eb8d36a930dd416f"), looks := false }, kinds := [], alts := [], laidByText := true, laidKinds := [.data, .data, .pinned], laidTests := true, laidLooks := .later }
def CallReadsUptoCardSaid : Prop := Claim7.holds Tryd.pinned (.plain (OpenSpec.upto callReadsSpec)) callReadsUptoCard

/-- THE SECOND FORM's CARD OF 'tidelinelaw05.CallCodes'. -/
def callCodesUptoCard : Claim7 := { stood := { row := callCodesUptoRow, standIns := [], harness := (true, "551747f758a587d9450db9c00a825df00679b14f92664362eb8d36a930dd416f"), looks := false }, kinds := [], alts := [], laidByText := true, laidKinds := [.data, .data, .pinned], laidTests := true, laidLooks := .later }
def CallCodesUptoCardSaid : Prop := Claim7.holds Tryd.pinned (.plain (OpenSpec.upto callCodesSpec)) callCodesUptoCard

/-- THE SECOND FORM's CARD OF 'tidelinelaw05.CallAnswers'. -/
def callAnswersUptoCard : Claim7 := { stood := { row := callAnswersUptoRow, standIns := [], harness := (true, "551747f758a587d9450db9c00a825df00679b14f92664362eb8d36a930dd416f"), looks := false }, kinds := [], alts := [], laidByText := true, laidKinds := [.data, .data, .pinned], laidTests := true, laidLooks := .later }
def CallAnswersUptoCardSaid : Prop := Claim7.holds Tryd.pinned (.plain (OpenSpec.upto callAnswersSpec)) callAnswersUptoCard
end Rows
end Go.Proofs.YtiglgepbffcdeaaDoor
