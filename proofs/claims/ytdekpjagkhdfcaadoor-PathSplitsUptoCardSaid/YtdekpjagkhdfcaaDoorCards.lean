/-
  DERIVED. GIVEN WITH THE SEED: THE CARDS: each row of YtdekpjagkhdfcaaDoorRows.lean that lists a variable, with what it lists TIED to the program's text (the seventh form; the later family's looks); each row that meets fmt, with fmt's text TOLD by the authors' own Lean function (tested against real Go, not proved from fmt's source: count such statements apart). THE CARD IS WHAT COUNTS. Prove the row's statement (the work); the ties are given (YtdekpjagkhdfcaaDoorTie.lean); close each card by the builder's one call (the guide's Derived/Test/ToyasCard.lean, 'card_holds'). Laid BY PROGRAM, IN A SANDBOX (cutbox-door.mjs). By AI agents, Wed Nov 11 2026. No macro, syntax, notation, axiom, sorry.
-/
import Derived.Test.YtdekpjagkhdfcaaDoorRows
import GoSem.ClaimSeven
namespace Go.Proofs.YtdekpjagkhdfcaaDoor
namespace Rows

/-- THE TIED CARD OF 'tidelinelaw03.PathSplits'. -/
def pathSplitsCard : Claim7 := { stood := { row := pathSplitsRow, standIns := [], harness := (true, "ae3b8669ef002a8e5adaac12ff97dd84390d8e2e82186b8877048e1a1a9f9e37"), looks := false }, kinds := [], alts := [], laidByText := true, laidKinds := [.data, .pinned], laidTests := true, laidLooks := .later }
def PathSplitsCardSaid : Prop := Claim7.holds Tryd.pinned (.plain (OpenSpec.ofChange pathSplitsSpec)) pathSplitsCard

/-- THE TIED CARD OF 'tidelinelaw03.PathBack'. -/
def pathBackCard : Claim7 := { stood := { row := pathBackRow, standIns := [], harness := (true, "ae3b8669ef002a8e5adaac12ff97dd84390d8e2e82186b8877048e1a1a9f9e37"), looks := false }, kinds := [], alts := [], laidByText := true, laidKinds := [.data, .pinned], laidTests := true, laidLooks := .later }
def PathBackCardSaid : Prop := Claim7.holds Tryd.pinned (.plain (OpenSpec.ofChange pathBackSpec)) pathBackCard

/-- THE TIED CARD OF 'tidelinelaw03.PathNames'. -/
def pathNamesCard : Claim7 := { stood := { row := pathNamesRow, standIns := [], harness := (true, "ae3b8669ef002a8e5adaac12ff97dd84390d8e2e82186b8877048e1a1a9f9e37"), looks := false }, kinds := [], alts := [], laidByText := true, laidKinds := [.data, .pinned], laidTests := true, laidLooks := .later }
def PathNamesCardSaid : Prop := Claim7.holds Tryd.pinned (.plain (OpenSpec.ofChange pathNamesSpec)) pathNamesCard

/-- THE TIED CARD OF 'tidelinelaw03.PathInside'. -/
def pathInsideCard : Claim7 := { stood := { row := pathInsideRow, standIns := [], harness := (true, "ae3b8669ef002a8e5adaac12ff97dd84390d8e2e82186b8877048e1a1a9f9e37"), looks := false }, kinds := [], alts := [], laidByText := true, laidKinds := [.data, .pinned], laidTests := true, laidLooks := .later }
def PathInsideCardSaid : Prop := Claim7.holds Tryd.pinned (.plain (OpenSpec.ofChange pathInsideSpec)) pathInsideCard

/-- THE TIED CARD OF 'tidelinelaw03.PathParents'. -/
def pathParentsCard : Claim7 := { stood := { row := pathParentsRow, standIns := [], harness := (true, "ae3b8669ef002a8e5adaac12ff97dd84390d8e2e82186b8877048e1a1a9f9e37"), looks := false }, kinds := [], alts := [], laidByText := true, laidKinds := [.data, .pinned], laidTests := true, laidLooks := .later }
def PathParentsCardSaid : Prop := Claim7.holds Tryd.pinned (.plain (OpenSpec.ofChange pathParentsSpec)) pathParentsCard

/-- THE SECOND FORM's CARD OF 'tidelinelaw03.PathSplits'. -/
def pathSplitsUptoCard : Claim7 := { stood := { row := pathSplitsUptoRow, standIns := [], harness := (true, "ae3b8669ef002a8e5adaac12ff97dd84390d8e2e82186b8877048e1a1a9f9e37"), looks := false }, kinds := [], alts := [], laidByText := true, laidKinds := [.data, .pinned], laidTests := true, laidLooks := .later }
def PathSplitsUptoCardSaid : Prop := Claim7.holds Tryd.pinned (.plain (OpenSpec.upto pathSplitsSpec)) pathSplitsUptoCard

/-- THE SECOND FORM's CARD OF 'tidelinelaw03.PathBack'. -/
def pathBackUptoCard : Claim7 := { stood := { row := pathBackUptoRow, standIns := [], harness := (true, "ae3b8669ef002a8e5adaac12ff97dd84390d8e2e82186b8877048e1a1a9f9e37"), looks := false }, kinds := [], alts := [], laidByText := true, laidKinds := [.data, .pinned], laidTests := true, laidLooks := .later }
def PathBackUptoCardSaid : Prop := Claim7.holds Tryd.pinned (.plain (OpenSpec.upto pathBackSpec)) pathBackUptoCard

/-- THE SECOND FORM's CARD OF 'tidelinelaw03.PathNames'. -/
def pathNamesUptoCard : Claim7 := { stood := { row := pathNamesUptoRow, standIns := [], harness := (true, "ae3b8669ef002a8e5adaac12ff97dd84390d8e2e82186b8877048e1a1a9f9e37"), looks := false }, kinds := [], alts := [], laidByText := true, laidKinds := [.data, .pinned], laidTests := true, laidLooks := .later }
def PathNamesUptoCardSaid : Prop := Claim7.holds Tryd.pinned (.plain (OpenSpec.upto pathNamesSpec)) pathNamesUptoCard

/-- THE SECOND FORM's CARD OF 'tidelinelaw03.PathInside'. -/
def pathInsideUptoCard : Claim7 := { stood := { row := pathInsideUptoRow, standIns := [], harness := (true, "ae3b8669ef002a8e5adaac12ff97dd84390d8e2e82186b8877048e1a1a9f9e37"), looks := false }, kinds := [], alts := [], laidByText := true, laidKinds := [.data, .pinned], laidTests := true, laidLooks := .later }
def PathInsideUptoCardSaid : Prop := Claim7.holds Tryd.pinned (.plain (OpenSpec.upto pathInsideSpec)) pathInsideUptoCard

/-- THE SECOND FORM's CARD OF 'tidelinelaw03.PathParents'. -/
def pathParentsUptoCard : Claim7 := { stood := { row := pathParentsUptoRow, standIns := [], harness := (true, "ae3b8669ef002a8e5adaac12ff97dd84390d8e2e82186b8877048e1a1a9f9e37"), looks := false }, kinds := [], alts := [], laidByText := true, laidKinds := [.data, .pinned], laidTests := true, laidLooks := .later }
def PathParentsUptoCardSaid : Prop := Claim7.holds Tryd.pinned (.plain (OpenSpec.upto pathParentsSpec)) pathParentsUptoCard
end Rows
end Go.Proofs.YtdekpjagkhdfcaaDoor
