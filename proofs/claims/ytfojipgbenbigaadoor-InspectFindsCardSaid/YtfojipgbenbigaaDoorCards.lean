/-
  DERIVED. GIVEN WITH THE SEED: THE CARDS: each row of YtfojipgbenbigaaDoorRows.lean that lists a variable, with what it lists TIED to the program's text (the seventh form; the later family's looks); each row that meets fmt, with fmt's text TOLD by the authors' own Lean function (tested against real Go, not proved from fmt's source: count such statements apart). THE CARD IS WHAT COUNTS. Prove the row's statement (the work); the ties are given (YtfojipgbenbigaaDoorTie.lean); close each card by the builder's one call (the guide's Derived/Test/ToyasCard.lean, 'card_holds'). Laid BY PROGRAM, IN A SANDBOX (cutbox-door.mjs). By AI agents, Wed Nov 11 2026. No macro, syntax, notation, axiom, sorry.
-/
import Derived.Test.YtfojipgbenbigaaDoorRows
import GoSem.ClaimSeven
namespace Go.Proofs.YtfojipgbenbigaaDoor
namespace Rows

/-- THE TIED CARD OF 'loftblocklaw47.InspectDays'. -/
def inspectDaysCard : Claim7 := { stood := { row := inspectDaysRow, standIns := [], harness := (true, "34d94a3207960f53d19e56918b2161e9509bb3d014a9cbc1630a0be82259a697"), looks := false }, kinds := [], alts := [], laidByText := true, laidKinds := [.data], laidTests := true, laidLooks := .later }
def InspectDaysCardSaid : Prop := Claim7.holds Tryd.pinned (.plain (OpenSpec.ofChange inspectDaysSpec)) inspectDaysCard

/-- THE TIED CARD OF 'loftblocklaw47.InspectBack'. -/
def inspectBackCard : Claim7 := { stood := { row := inspectBackRow, standIns := [], harness := (true, "34d94a3207960f53d19e56918b2161e9509bb3d014a9cbc1630a0be82259a697"), looks := false }, kinds := [], alts := [], laidByText := true, laidKinds := [.data], laidTests := true, laidLooks := .later }
def InspectBackCardSaid : Prop := Claim7.holds Tryd.pinned (.plain (OpenSpec.ofChange inspectBackSpec)) inspectBackCard

/-- THE TIED CARD OF 'loftblocklaw47.InspectChecks'. -/
def inspectChecksCard : Claim7 := { stood := { row := inspectChecksRow, standIns := [], harness := (true, "34d94a3207960f53d19e56918b2161e9509bb3d014a9cbc1630a0be82259a697"), looks := false }, kinds := [], alts := [], laidByText := true, laidKinds := [.data], laidTests := true, laidLooks := .later }
def InspectChecksCardSaid : Prop := Claim7.holds Tryd.pinned (.plain (OpenSpec.ofChange inspectChecksSpec)) inspectChecksCard

/-- THE TIED CARD OF 'loftblocklaw47.InspectDue'. -/
def inspectDueCard : Claim7 := { stood := { row := inspectDueRow, standIns := [], harness := (true, "34d94a3207960f53d19e56918b2161e9509bb3d014a9cbc1630a0be82259a697"), looks := false }, kinds := [], alts := [], laidByText := true, laidKinds := [.data], laidTests := true, laidLooks := .later }
def InspectDueCardSaid : Prop := Claim7.holds Tryd.pinned (.plain (OpenSpec.ofChange inspectDueSpec)) inspectDueCard

/-- THE TIED CARD OF 'loftblocklaw47.InspectLogs'. -/
def inspectLogsCard : Claim7 := { stood := { row := inspectLogsRow, standIns := [], harness := (true, "34d94a3207960f53d19e56918b2161e9509bb3d014a9cbc1630a0be82259a697"), looks := false }, kinds := [], alts := [], laidByText := true, laidKinds := [.data], laidTests := true, laidLooks := .later }
def InspectLogsCardSaid : Prop := Claim7.holds Tryd.pinned (.plain (OpenSpec.ofChange inspectLogsSpec)) inspectLogsCard

/-- THE TIED CARD OF 'loftblocklaw47.InspectMoves'. -/
def inspectMovesCard : Claim7 := { stood := { row := inspectMovesRow, standIns := [], harness := (true, "34d94a3207960f53d19e56918b2161e9509bb3d014a9cbc1630a0be82259a697"), looks := false }, kinds := [], alts := [], laidByText := true, laidKinds := [.data], laidTests := true, laidLooks := .later }
def InspectMovesCardSaid : Prop := Claim7.holds Tryd.pinned (.plain (OpenSpec.ofChange inspectMovesSpec)) inspectMovesCard

/-- THE TIED CARD OF 'loftblocklaw47.InspectFinds'. -/
def inspectFindsCard : Claim7 := { stood := { row := inspectFindsRow, standIns := [], harness := (true, "34d94a3207960f53d19e56918b2161e9509bb3d014a9cbc1630a0be82259a697"), looks := false }, kinds := [], alts := [], laidByText := true, laidKinds := [.data], laidTests := true, laidLooks := .later }
def InspectFindsCardSaid : Prop := Claim7.holds Tryd.pinned (.plain (OpenSpec.ofChange inspectFindsSpec)) inspectFindsCard

/-- THE SECOND FORM's CARD OF 'loftblocklaw47.InspectDays'. -/
def inspectDaysUptoCard : Claim7 := { stood := { row := inspectDaysUptoRow, standIns := [], harness := (true, "34d94a3207960f53d19e56918b2161e9509bb3d014a9cbc1630a0be82259a697"), looks := false }, kinds := [], alts := [], laidByText := true, laidKinds := [.data], laidTests := true, laidLooks := .later }
def InspectDaysUptoCardSaid : Prop := Claim7.holds Tryd.pinned (.plain (OpenSpec.upto inspectDaysSpec)) inspectDaysUptoCard

/-- THE SECOND FORM's CARD OF 'loftblocklaw47.InspectBack'. -/
def inspectBackUptoCard : Claim7 := { stood := { row := inspectBackUptoRow, standIns := [], harness := (true, "34d94a3207960f53d19e56918b2161e9509bb3d014a9cbc1630a0be82259a697"), looks := false }, kinds := [], alts := [], laidByText := true, laidKinds := [.data], laidTests := true, laidLooks := .later }
def InspectBackUptoCardSaid : Prop := Claim7.holds Tryd.pinned (.plain (OpenSpec.upto inspectBackSpec)) inspectBackUptoCard

/-- THE SECOND FORM's CARD OF 'loftblocklaw47.InspectChecks'. -/
def inspectChecksUptoCard : Claim7 := { stood := { row := inspectChecksUptoRow, standIns := [], harness := (true, "34d94a3207960f53d19e56918b2161e9509bb3d014a9cbc1630a0be82259a697"), looks := false }, kinds := [], alts := [], laidByText := true, laidKinds := [.data], laidTests := true, laidLooks := .later }
def InspectChecksUptoCardSaid : Prop := Claim7.holds Tryd.pinned (.plain (OpenSpec.upto inspectChecksSpec)) inspectChecksUptoCard

/-- THE SECOND FORM's CARD OF 'loftblocklaw47.InspectDue'. -/
def inspectDueUptoCard : Claim7 := { stood := { row := inspectDueUptoRow, standIns := [], harness := (true, "34d94a3207960f53d19e56918b2161e9509bb3d014a9cbc1630a0be82259a697"), looks := false }, kinds := [], alts := [], laidByText := true, laidKinds := [.data], laidTests := true, laidLooks := .later }
def InspectDueUptoCardSaid : Prop := Claim7.holds Tryd.pinned (.plain (OpenSpec.upto inspectDueSpec)) inspectDueUptoCard

/-- THE SECOND FORM's CARD OF 'loftblocklaw47.InspectLogs'. -/
def inspectLogsUptoCard : Claim7 := { stood := { row := inspectLogsUptoRow, standIns := [], harness := (true, "34d94a3207960f53d19e56918b2161e9509bb3d014a9cbc1630a0be82259a697"), looks := false }, kinds := [], alts := [], laidByText := true, laidKinds := [.data], laidTests := true, laidLooks := .later }
def InspectLogsUptoCardSaid : Prop := Claim7.holds Tryd.pinned (.plain (OpenSpec.upto inspectLogsSpec)) inspectLogsUptoCard

/-- THE SECOND FORM's CARD OF 'loftblocklaw47.InspectMoves'. -/
def inspectMovesUptoCard : Claim7 := { stood := { row := inspectMovesUptoRow, standIns := [], harness := (true, "34d94a3207960f53d19e56918b2161e9509bb3d014a9cbc1630a0be82259a697"), looks := false }, kinds := [], alts := [], laidByText := true, laidKinds := [.data], laidTests := true, laidLooks := .later }
def InspectMovesUptoCardSaid : Prop := Claim7.holds Tryd.pinned (.plain (OpenSpec.upto inspectMovesSpec)) inspectMovesUptoCard

/-- THE SECOND FORM's CARD OF 'loftblocklaw47.InspectFinds'. -/
def inspectFindsUptoCard : Claim7 := { stood := { row := inspectFindsUptoRow, standIns := [], harness := (true, "34d94a3207960f53d19e56918b2161e9509bb3d014a9cbc1630a0be82259a697"), looks := false }, kinds := [], alts := [], laidByText := true, laidKinds := [.data], laidTests := true, laidLooks := .later }
def InspectFindsUptoCardSaid : Prop := Claim7.holds Tryd.pinned (.plain (OpenSpec.upto inspectFindsSpec)) inspectFindsUptoCard
end Rows
end Go.Proofs.YtfojipgbenbigaaDoor
