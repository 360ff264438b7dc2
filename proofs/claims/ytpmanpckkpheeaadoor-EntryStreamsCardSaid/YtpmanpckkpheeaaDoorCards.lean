/-
  DERIVED. GIVEN WITH THE SEED: THE CARDS: each row of YtpmanpckkpheeaaDoorRows.lean that lists a variable, with what it lists TIED to the program's text (the seventh form; the later family's looks); each row that meets fmt, with fmt's text TOLD by the authors' own Lean function (tested against real Go, not proved from fmt's source: count such statements apart). THE CARD IS WHAT COUNTS. Prove the row's statement (the work); the ties are given (YtpmanpckkpheeaaDoorTie.lean); close each card by the builder's one call (the guide's Derived/Test/ToyasCard.lean, 'card_holds'). Laid BY PROGRAM, IN A SANDBOX (cutbox-door.mjs). By AI agents, Wed Nov 11 2026. No macro, syntax, notation, axiom, sorry.
-/
import Derived.Test.YtpmanpckkpheeaaDoorRows
import GoSem.ClaimSeven
namespace Go.Proofs.YtpmanpckkpheeaaDoor
namespace Rows

/-- THE TIED CARD OF 'tidelinelaw11.PlanTold'. -/
def planToldCard : Claim7 := { stood := { row := planToldRow, standIns := [], harness := (true, "66113648bf558954ae81498fa5b3c2392716e3aa44a277a0095dea004c86140b"), looks := false }, kinds := [], alts := [], laidByText := true, laidKinds := [.data], laidTests := true, laidLooks := .later }
def PlanToldCardSaid : Prop := Claim7.holds Tryd.pinned (.plain (OpenSpec.ofChange planToldSpec)) planToldCard

/-- THE TIED CARD OF 'tidelinelaw07.EntryTurned'. -/
def entryTurnedCard : Claim7 := { stood := { row := entryTurnedRow, standIns := [], harness := (true, "66113648bf558954ae81498fa5b3c2392716e3aa44a277a0095dea004c86140b"), looks := false }, kinds := [], alts := [], laidByText := true, laidKinds := [.data], laidTests := true, laidLooks := .later }
def EntryTurnedCardSaid : Prop := Claim7.holds Tryd.pinned (.plain (OpenSpec.ofChange entryTurnedSpec)) entryTurnedCard

/-- THE TIED CARD OF 'tidelinelaw07.EntryStreams'. -/
def entryStreamsCard : Claim7 := { stood := { row := entryStreamsRow, standIns := [], harness := (true, "66113648bf558954ae81498fa5b3c2392716e3aa44a277a0095dea004c86140b"), looks := false }, kinds := [], alts := [], laidByText := true, laidKinds := [.data], laidTests := true, laidLooks := .later }
def EntryStreamsCardSaid : Prop := Claim7.holds Tryd.pinned (.plain (OpenSpec.ofChange entryStreamsSpec)) entryStreamsCard

/-- THE TIED CARD OF 'tidelinelaw11.PlanReads'. -/
def planReadsCard : Claim7 := { stood := { row := planReadsRow, standIns := [], harness := (true, "66113648bf558954ae81498fa5b3c2392716e3aa44a277a0095dea004c86140b"), looks := false }, kinds := [], alts := [], laidByText := true, laidKinds := [.data], laidTests := true, laidLooks := .later }
def PlanReadsCardSaid : Prop := Claim7.holds Tryd.pinned (.plain (OpenSpec.ofChange planReadsSpec)) planReadsCard

/-- THE TIED CARD OF 'tidelinelaw12.RpcCodes'. -/
def rpcCodesCard : Claim7 := { stood := { row := rpcCodesRow, standIns := [], harness := (true, "66113648bf558954ae81498fa5b3c2392716e3aa44a277a0095dea004c86140b"), looks := false }, kinds := [], alts := [], laidByText := true, laidKinds := [.data], laidTests := true, laidLooks := .later }
def RpcCodesCardSaid : Prop := Claim7.holds Tryd.pinned (.plain (OpenSpec.ofChange rpcCodesSpec)) rpcCodesCard

/-- THE TIED CARD OF 'tidelinelaw12.RpcTurned'. -/
def rpcTurnedCard : Claim7 := { stood := { row := rpcTurnedRow, standIns := [], harness := (true, "66113648bf558954ae81498fa5b3c2392716e3aa44a277a0095dea004c86140b"), looks := false }, kinds := [], alts := [], laidByText := true, laidKinds := [.data], laidTests := true, laidLooks := .later }
def RpcTurnedCardSaid : Prop := Claim7.holds Tryd.pinned (.plain (OpenSpec.ofChange rpcTurnedSpec)) rpcTurnedCard

/-- THE TIED CARD OF 'tidelinelaw05.CallUnlike'. -/
def callUnlikeCard : Claim7 := { stood := { row := callUnlikeRow, standIns := [], harness := (true, "66113648bf558954ae81498fa5b3c2392716e3aa44a277a0095dea004c86140b"), looks := false }, kinds := [], alts := [], laidByText := true, laidKinds := [.data, .data, .pinned], laidTests := true, laidLooks := .later }
def CallUnlikeCardSaid : Prop := Claim7.holds Tryd.pinned (.plain (OpenSpec.ofChange callUnlikeSpec)) callUnlikeCard

/-- THE TIED CARD OF 'tidelinelaw05.CallReads'. -/
def callReadsCard : Claim7 := { stood := { row := callReadsRow, standIns := [], harness := (true, "66113648bf558954ae81498fa5b3c2392716e3aa44a277a0095dea004c86140b"), looks := false }, kinds := [], alts := [], laidByText := true, laidKinds := [.data, .data, .pinned], laidTests := true, laidLooks := .later }
def CallReadsCardSaid : Prop := Claim7.holds Tryd.pinned (.plain (OpenSpec.ofChange callReadsSpec)) callReadsCard

/-- THE TIED CARD OF 'tidelinelaw05.CallCodes'. -/
def callCodesCard : Claim7 := { stood := { row := callCodesRow, standIns := [], harness := (true, "66113648bf558954ae81498fa5b3c2392716e3aa44a277a0095dea004c86140b"), looks := false }, kinds := [], alts := [], laidByText := true, laidKinds := [.data, .data, .pinned], laidTests := true, laidLooks := .later }
def CallCodesCardSaid : Prop := Claim7.holds Tryd.pinned (.plain (OpenSpec.ofChange callCodesSpec)) callCodesCard

/-- THE SECOND FORM's CARD OF 'tidelinelaw11.PlanTold'. -/
def planToldUptoCard : Claim7 := { stood := { row := planToldUptoRow, standIns := [], harness := (true, "66113648bf558954ae81498fa5b3c2392716e3aa44a277a0095dea004c86140b"), looks := false }, kinds := [], alts := [], laidByText := true, laidKinds := [.data], laidTests := true, laidLooks := .later }
def PlanToldUptoCardSaid : Prop := Claim7.holds Tryd.pinned (.plain (OpenSpec.upto planToldSpec)) planToldUptoCard

/-- THE SECOND FORM's CARD OF 'tidelinelaw07.EntryTurned'. -/
def entryTurnedUptoCard : Claim7 := { stood := { row := entryTurnedUptoRow, standIns := [], harness := (true, "66113648bf558954ae81498fa5b3c2392716e3aa44a277a0095dea004c86140b"), looks := false }, kinds := [], alts := [], laidByText := true, laidKinds := [.data], laidTests := true, laidLooks := .later }
def EntryTurnedUptoCardSaid : Prop := Claim7.holds Tryd.pinned (.plain (OpenSpec.upto entryTurnedSpec)) entryTurnedUptoCard

/-- THE SECOND FORM's CARD OF 'tidelinelaw07.EntryStreams'. -/
def entryStreamsUptoCard : Claim7 := { stood := { row := entryStreamsUptoRow, standIns := [], harness := (true, "66113648bf558954ae81498fa5b3c2392716e3aa44a277a0095dea004c86140b"), looks := false }, kinds := [], alts := [], laidByText := true, laidKinds := [.data], laidTests := true, laidLooks := .later }
def EntryStreamsUptoCardSaid : Prop := Claim7.holds Tryd.pinned (.plain (OpenSpec.upto entryStreamsSpec)) entryStreamsUptoCard

/-- THE SECOND FORM's CARD OF 'tidelinelaw11.PlanReads'. -/
def planReadsUptoCard : Claim7 := { stood := { row := planReadsUptoRow, standIns := [], harness := (true, "66113648bf558954ae81498fa5b3c2392716e3aa44a277a0095dea004c86140b"), looks := false }, kinds := [], alts := [], laidByText := true, laidKinds := [.data], laidTests := true, laidLooks := .later }
def PlanReadsUptoCardSaid : Prop := Claim7.holds Tryd.pinned (.plain (OpenSpec.upto planReadsSpec)) planReadsUptoCard

/-- THE SECOND FORM's CARD OF 'tidelinelaw12.RpcCodes'. -/
def rpcCodesUptoCard : Claim7 := { stood := { row := rpcCodesUptoRow, standIns := [], harness := (true, "66113648bf558954ae81498fa5b3c2392716e3aa44a277a0095dea004c86140b"), looks := false }, kinds := [], alts := [], laidByText := true, laidKinds := [.data], laidTests := true, laidLooks := .later }
def RpcCodesUptoCardSaid : Prop := Claim7.holds Tryd.pinned (.plain (OpenSpec.upto rpcCodesSpec)) rpcCodesUptoCard

/-- THE SECOND FORM's CARD OF 'tidelinelaw12.RpcTurned'. -/
def rpcTurnedUptoCard : Claim7 := { stood := { row := rpcTurnedUptoRow, standIns := [], harness := (true, "66113648bf558954ae81498fa5b3c2392716e3aa44a277a0095dea004c86140b"), looks := false }, kinds := [], alts := [], laidByText := true, laidKinds := [.data], laidTests := true, laidLooks := .later }
def RpcTurnedUptoCardSaid : Prop := Claim7.holds Tryd.pinned (.plain (OpenSpec.upto rpcTurnedSpec)) rpcTurnedUptoCard

/-- THE SECOND FORM's CARD OF 'tidelinelaw05.CallUnlike'. -/
def callUnlikeUptoCard : Claim7 := { stood := { row := callUnlikeUptoRow, standIns := [], harness := (true, "66113648bf558954ae81498fa5b3c2392716e3aa44a277a0095dea004c86140b"), looks := false }, kinds := [], alts := [], laidByText := true, laidKinds := [.data, .data, .pinned], laidTests := true, laidLooks := .later }
def CallUnlikeUptoCardSaid : Prop := Claim7.holds Tryd.pinned (.plain (OpenSpec.upto callUnlikeSpec)) callUnlikeUptoCard

/-- THE SECOND FORM's CARD OF 'tidelinelaw05.CallReads'. -/
def callReadsUptoCard : Claim7 := { stood := { row := callReadsUptoRow, standIns := [], harness := (true, "66113648bf558954ae81498fa5b3c2392716e3aa44a277a0095dea004c86140b"), looks := false }, kinds := [], alts := [], laidByText := true, laidKinds := [.data, .data, .pinned], laidTests := true, laidLooks := .later }
def CallReadsUptoCardSaid : Prop := Claim7.holds Tryd.pinned (.plain (OpenSpec.upto callReadsSpec)) callReadsUptoCard

/-- THE SECOND FORM's CARD OF 'tidelinelaw05.CallCodes'. -/
def callCodesUptoCard : Claim7 := { stood := { row := callCodesUptoRow, standIns := [], harness := (true, "66113648bf558954ae81498fa5b3c2392716e3aa44a277a0095dea004c86140b"), looks := false }, kinds := [], alts := [], laidByText := true, laidKinds := [.data, .data, .pinned], laidTests := true, laidLooks := .later }
def CallCodesUptoCardSaid : Prop := Claim7.holds Tryd.pinned (.plain (OpenSpec.upto callCodesSpec)) callCodesUptoCard
end Rows
end Go.Proofs.YtpmanpckkpheeaaDoor
