/-
  NARROWER THAN 'FOR EVERY INPUT', by the rows' own cells (each row's printed sentence says how): InspectDays: laid · InspectBack: laid · InspectChecks: laid · InspectDue: laid · InspectLogs: laid · InspectMoves: laid · InspectFinds: laid.
  DERIVED. THE GIVEN ROWS OF THIS SEAT. 7 by the template 'for every input the law returns true; each argument reads behind the call as it read before'; 0 by the template 'total and deterministic' (their statements: YtfojipgbenbigaaDoorTotals.lean).
  GIVEN WITH THE SEED: the statements are not yours to turn. If you find one false, say at which input.
  Laid BY PROGRAM, IN A SANDBOX (cutbox-rows.mjs): the forced cells as the released guide's own fill.sh prints them over the translation 02ff7f6e4ccf21e3… (all of the seat's roots in one cut). By AI agents, Wed Nov 11 2026. No macro, syntax, notation, axiom, sorry.
-/
import Derived.Test.YtfojipgbenbigaaDoorChecked
import GoSem.Claim
import GoSem.ClaimJoined
import GoSem.ClaimMapViews
import Derived.JoinedTies
import Derived.KernelRfl
namespace Go.Proofs.YtfojipgbenbigaaDoor
/- THE CELL 'sum', in the pinned program and in every row, IS THE sha256 OF THE DUMP (.gsa) THAT YtfojipgbenbigaaDoorProg.lean LOADS. Nothing in Lean hashes anything: it is a label: what it is worth is what the hold of that sum in a sandbox is worth. -/
noncomputable def Tryd.pinned : Pinned := { name := "ytfojipgbenbigaadoor", sum := "02ff7f6e4ccf21e38e0fd7532c23fb1486a216c9ac668409ef463f4eb0ef8dc7", checked := Tryd.checked }
namespace Rows
def none {H : Type} : Left H := { results := [], args := [] }

/- WHAT THE LISTED PACKAGE-LEVEL VARIABLES READ AS WHEN THE CALL BEGINS. Each datum BY PROGRAM (the guide's laid-datum.mjs) off the statement by which the dump's own 'gosem.cut.vars' lays the variable. In a bare row this is a premise. The card (YtfojipgbenbigaaDoorCards.lean) ties it to the program's text. -/
def laid_loftblock_inspect_months {H : Type} : DataW H := .agg [.lit (.int .i64 31), .lit (.int .i64 28), .lit (.int .i64 31), .lit (.int .i64 30), .lit (.int .i64 31), .lit (.int .i64 30), .lit (.int .i64 31), .lit (.int .i64 31), .lit (.int .i64 30), .lit (.int .i64 31), .lit (.int .i64 30), .lit (.int .i64 31)]

/-- 'loftblocklaw47.InspectDays': WHATEVER THE INPUT: true; the input reads as it did. -/
def inspectDaysSpec : ChangeSpec := { name := "inspectDays", fn := fun _ => fun
  | [d1, d2, d3, d4] => { results := [.lit (.bool true)], args := [d1, d2, d3, d4] }
  | _ => none }
def inspectDaysRow : OpenClaim := { program := "ytfojipgbenbigaadoor", sum := "02ff7f6e4ccf21e38e0fd7532c23fb1486a216c9ac668409ef463f4eb0ef8dc7", func := "loftblock/loftblocklaw47.InspectDays", spec := "inspectDays", unfollowed := true, recurses := true, named := ["loftblock/inspect.months"], apart := false, laid := [("loftblock/inspect.months", laid_loftblock_inspect_months)] }
def InspectDaysSaid : Prop := inspectDaysRow.holds Tryd.pinned (OpenSpec.ofChange inspectDaysSpec)

/-- ITS FALSE NEIGHBOUR: 'it returns false'. Refute it at one input. -/
def inspectDaysWrong : ChangeSpec := { name := "inspectDays", fn := fun _ => fun
  | [d1, d2, d3, d4] => { results := [.lit (.bool false)], args := [d1, d2, d3, d4] }
  | _ => none }
def InspectDaysWrongFalsely : Prop := inspectDaysRow.holds Tryd.pinned (OpenSpec.ofChange inspectDaysWrong)

/-- 'loftblocklaw47.InspectBack': WHATEVER THE INPUT: true; the input reads as it did. -/
def inspectBackSpec : ChangeSpec := { name := "inspectBack", fn := fun _ => fun
  | [d] => { results := [.lit (.bool true)], args := [d] }
  | _ => none }
def inspectBackRow : OpenClaim := { program := "ytfojipgbenbigaadoor", sum := "02ff7f6e4ccf21e38e0fd7532c23fb1486a216c9ac668409ef463f4eb0ef8dc7", func := "loftblock/loftblocklaw47.InspectBack", spec := "inspectBack", unfollowed := true, recurses := true, named := ["loftblock/inspect.months"], apart := false, laid := [("loftblock/inspect.months", laid_loftblock_inspect_months)] }
def InspectBackSaid : Prop := inspectBackRow.holds Tryd.pinned (OpenSpec.ofChange inspectBackSpec)

/-- ITS FALSE NEIGHBOUR: 'it returns false'. Refute it at one input. -/
def inspectBackWrong : ChangeSpec := { name := "inspectBack", fn := fun _ => fun
  | [d] => { results := [.lit (.bool false)], args := [d] }
  | _ => none }
def InspectBackWrongFalsely : Prop := inspectBackRow.holds Tryd.pinned (OpenSpec.ofChange inspectBackWrong)

/-- 'loftblocklaw47.InspectChecks': WHATEVER THE INPUT: true; the input reads as it did. -/
def inspectChecksSpec : ChangeSpec := { name := "inspectChecks", fn := fun _ => fun
  | [d1, d2, d3] => { results := [.lit (.bool true)], args := [d1, d2, d3] }
  | _ => none }
def inspectChecksRow : OpenClaim := { program := "ytfojipgbenbigaadoor", sum := "02ff7f6e4ccf21e38e0fd7532c23fb1486a216c9ac668409ef463f4eb0ef8dc7", func := "loftblock/loftblocklaw47.InspectChecks", spec := "inspectChecks", unfollowed := true, recurses := true, named := ["loftblock/inspect.months"], apart := false, laid := [("loftblock/inspect.months", laid_loftblock_inspect_months)] }
def InspectChecksSaid : Prop := inspectChecksRow.holds Tryd.pinned (OpenSpec.ofChange inspectChecksSpec)

/-- ITS FALSE NEIGHBOUR: 'it returns false'. Refute it at one input. -/
def inspectChecksWrong : ChangeSpec := { name := "inspectChecks", fn := fun _ => fun
  | [d1, d2, d3] => { results := [.lit (.bool false)], args := [d1, d2, d3] }
  | _ => none }
def InspectChecksWrongFalsely : Prop := inspectChecksRow.holds Tryd.pinned (OpenSpec.ofChange inspectChecksWrong)

/-- 'loftblocklaw47.InspectDue': WHATEVER THE INPUT: true; the input reads as it did. -/
def inspectDueSpec : ChangeSpec := { name := "inspectDue", fn := fun _ => fun
  | [d1, d2, d3] => { results := [.lit (.bool true)], args := [d1, d2, d3] }
  | _ => none }
def inspectDueRow : OpenClaim := { program := "ytfojipgbenbigaadoor", sum := "02ff7f6e4ccf21e38e0fd7532c23fb1486a216c9ac668409ef463f4eb0ef8dc7", func := "loftblock/loftblocklaw47.InspectDue", spec := "inspectDue", unfollowed := true, recurses := true, named := ["loftblock/inspect.months"], apart := false, laid := [("loftblock/inspect.months", laid_loftblock_inspect_months)] }
def InspectDueSaid : Prop := inspectDueRow.holds Tryd.pinned (OpenSpec.ofChange inspectDueSpec)

/-- ITS FALSE NEIGHBOUR: 'it returns false'. Refute it at one input. -/
def inspectDueWrong : ChangeSpec := { name := "inspectDue", fn := fun _ => fun
  | [d1, d2, d3] => { results := [.lit (.bool false)], args := [d1, d2, d3] }
  | _ => none }
def InspectDueWrongFalsely : Prop := inspectDueRow.holds Tryd.pinned (OpenSpec.ofChange inspectDueWrong)

/-- 'loftblocklaw47.InspectLogs': WHATEVER THE INPUT: true; the input reads as it did. -/
def inspectLogsSpec : ChangeSpec := { name := "inspectLogs", fn := fun _ => fun
  | [d1, d2] => { results := [.lit (.bool true)], args := [d1, d2] }
  | _ => none }
def inspectLogsRow : OpenClaim := { program := "ytfojipgbenbigaadoor", sum := "02ff7f6e4ccf21e38e0fd7532c23fb1486a216c9ac668409ef463f4eb0ef8dc7", func := "loftblock/loftblocklaw47.InspectLogs", spec := "inspectLogs", unfollowed := true, recurses := true, named := ["loftblock/inspect.months"], apart := false, laid := [("loftblock/inspect.months", laid_loftblock_inspect_months)] }
def InspectLogsSaid : Prop := inspectLogsRow.holds Tryd.pinned (OpenSpec.ofChange inspectLogsSpec)

/-- ITS FALSE NEIGHBOUR: 'it returns false'. Refute it at one input. -/
def inspectLogsWrong : ChangeSpec := { name := "inspectLogs", fn := fun _ => fun
  | [d1, d2] => { results := [.lit (.bool false)], args := [d1, d2] }
  | _ => none }
def InspectLogsWrongFalsely : Prop := inspectLogsRow.holds Tryd.pinned (OpenSpec.ofChange inspectLogsWrong)

/-- 'loftblocklaw47.InspectMoves': WHATEVER THE INPUT: true; the input reads as it did. -/
def inspectMovesSpec : ChangeSpec := { name := "inspectMoves", fn := fun _ => fun
  | [d1, d2, d3, d4, d5] => { results := [.lit (.bool true)], args := [d1, d2, d3, d4, d5] }
  | _ => none }
def inspectMovesRow : OpenClaim := { program := "ytfojipgbenbigaadoor", sum := "02ff7f6e4ccf21e38e0fd7532c23fb1486a216c9ac668409ef463f4eb0ef8dc7", func := "loftblock/loftblocklaw47.InspectMoves", spec := "inspectMoves", unfollowed := true, recurses := true, named := ["loftblock/inspect.months"], apart := false, laid := [("loftblock/inspect.months", laid_loftblock_inspect_months)] }
def InspectMovesSaid : Prop := inspectMovesRow.holds Tryd.pinned (OpenSpec.ofChange inspectMovesSpec)

/-- ITS FALSE NEIGHBOUR: 'it returns false'. Refute it at one input. -/
def inspectMovesWrong : ChangeSpec := { name := "inspectMoves", fn := fun _ => fun
  | [d1, d2, d3, d4, d5] => { results := [.lit (.bool false)], args := [d1, d2, d3, d4, d5] }
  | _ => none }
def InspectMovesWrongFalsely : Prop := inspectMovesRow.holds Tryd.pinned (OpenSpec.ofChange inspectMovesWrong)

/-- 'loftblocklaw47.InspectFinds': WHATEVER THE INPUT: true; the input reads as it did. -/
def inspectFindsSpec : ChangeSpec := { name := "inspectFinds", fn := fun _ => fun
  | [d1, d2, d3, d4] => { results := [.lit (.bool true)], args := [d1, d2, d3, d4] }
  | _ => none }
def inspectFindsRow : OpenClaim := { program := "ytfojipgbenbigaadoor", sum := "02ff7f6e4ccf21e38e0fd7532c23fb1486a216c9ac668409ef463f4eb0ef8dc7", func := "loftblock/loftblocklaw47.InspectFinds", spec := "inspectFinds", unfollowed := true, recurses := true, named := ["loftblock/inspect.months"], apart := false, laid := [("loftblock/inspect.months", laid_loftblock_inspect_months)] }
def InspectFindsSaid : Prop := inspectFindsRow.holds Tryd.pinned (OpenSpec.ofChange inspectFindsSpec)

/-- ITS FALSE NEIGHBOUR: 'it returns false'. Refute it at one input. -/
def inspectFindsWrong : ChangeSpec := { name := "inspectFinds", fn := fun _ => fun
  | [d1, d2, d3, d4] => { results := [.lit (.bool false)], args := [d1, d2, d3, d4] }
  | _ => none }
def InspectFindsWrongFalsely : Prop := inspectFindsRow.holds Tryd.pinned (OpenSpec.ofChange inspectFindsWrong)

/- THE SECOND FORM. 'bulk': how many values and letters a reading holds, each counted each time it is reached (what is shared counts as often as it is met; a slice's spare places count too). A statement '..UptoSaid' is the law's where the arguments, and the package variables that the reading takes, are together of bulk at most 1048576: NARROWER than '..Said'. Prove '..Said' where nothing that the law and all that it calls make is longer than what came in: it says more and counts as full. Else prove '..UptoSaid'. A law counts once. -/
mutual
def uptoBulk {H : Type} : DataW H → Nat
  | .lit (.string bytes) => bytes.length + 1
  | .lit _ => 1
  | .nil => 1
  | .ptr d => uptoBulk d + 1
  | .slice elems spare => uptoBulkAll elems + uptoBulkAll spare + 1
  | .agg parts => uptoBulkAll parts + 1
  | .iface _ d => uptoBulk d + 1
  | .map entries => uptoBulkEntries entries + 1
  | .held _ => 1
def uptoBulkAll {H : Type} : List (DataW H) → Nat
  | [] => 0
  | d :: r => uptoBulk d + uptoBulkAll r
def uptoBulkEntries {H : Type} : List (Lit × DataW H) → Nat
  | [] => 0
  | x :: r => uptoBulkEntry x + uptoBulkEntries r
def uptoBulkEntry {H : Type} : Lit × DataW H → Nat
  | (.string bytes, d) => bytes.length + uptoBulk d + 1
  | (_, d) => uptoBulk d + 1
 end
def uptoSmall : (H : Type) → List (DataW H) → Bool := fun _ ds => decide (uptoBulkAll ds ≤ 1048576)
def OpenSpec.upto (s : _root_.Go.ChangeSpec) : _root_.Go.OpenSpec := { _root_.Go.OpenSpec.ofChange s with cond := some uptoSmall }

/-- 'loftblocklaw47.InspectDays', WHERE WHAT IT READS IS OF BULK AT MOST 1048576: true; the input reads as it did. -/
def inspectDaysUptoRow : OpenClaim := { program := "ytfojipgbenbigaadoor", sum := "02ff7f6e4ccf21e38e0fd7532c23fb1486a216c9ac668409ef463f4eb0ef8dc7", func := "loftblock/loftblocklaw47.InspectDays", spec := "inspectDays", unfollowed := true, recurses := true, named := ["loftblock/inspect.months"], apart := false, laid := [("loftblock/inspect.months", laid_loftblock_inspect_months)], narrowed := true }
def InspectDaysUptoSaid : Prop := inspectDaysUptoRow.holds Tryd.pinned (OpenSpec.upto inspectDaysSpec)

/-- 'loftblocklaw47.InspectBack', WHERE WHAT IT READS IS OF BULK AT MOST 1048576: true; the input reads as it did. -/
def inspectBackUptoRow : OpenClaim := { program := "ytfojipgbenbigaadoor", sum := "02ff7f6e4ccf21e38e0fd7532c23fb1486a216c9ac668409ef463f4eb0ef8dc7", func := "loftblock/loftblocklaw47.InspectBack", spec := "inspectBack", unfollowed := true, recurses := true, named := ["loftblock/inspect.months"], apart := false, laid := [("loftblock/inspect.months", laid_loftblock_inspect_months)], narrowed := true }
def InspectBackUptoSaid : Prop := inspectBackUptoRow.holds Tryd.pinned (OpenSpec.upto inspectBackSpec)

/-- 'loftblocklaw47.InspectChecks', WHERE WHAT IT READS IS OF BULK AT MOST 1048576: true; the input reads as it did. -/
def inspectChecksUptoRow : OpenClaim := { program := "ytfojipgbenbigaadoor", sum := "02ff7f6e4ccf21e38e0fd7532c23fb1486a216c9ac668409ef463f4eb0ef8dc7", func := "loftblock/loftblocklaw47.InspectChecks", spec := "inspectChecks", unfollowed := true, recurses := true, named := ["loftblock/inspect.months"], apart := false, laid := [("loftblock/inspect.months", laid_loftblock_inspect_months)], narrowed := true }
def InspectChecksUptoSaid : Prop := inspectChecksUptoRow.holds Tryd.pinned (OpenSpec.upto inspectChecksSpec)

/-- 'loftblocklaw47.InspectDue', WHERE WHAT IT READS IS OF BULK AT MOST 1048576: true; the input reads as it did. -/
def inspectDueUptoRow : OpenClaim := { program := "ytfojipgbenbigaadoor", sum := "02ff7f6e4ccf21e38e0fd7532c23fb1486a216c9ac668409ef463f4eb0ef8dc7", func := "loftblock/loftblocklaw47.InspectDue", spec := "inspectDue", unfollowed := true, recurses := true, named := ["loftblock/inspect.months"], apart := false, laid := [("loftblock/inspect.months", laid_loftblock_inspect_months)], narrowed := true }
def InspectDueUptoSaid : Prop := inspectDueUptoRow.holds Tryd.pinned (OpenSpec.upto inspectDueSpec)

/-- 'loftblocklaw47.InspectLogs', WHERE WHAT IT READS IS OF BULK AT MOST 1048576: true; the input reads as it did. -/
def inspectLogsUptoRow : OpenClaim := { program := "ytfojipgbenbigaadoor", sum := "02ff7f6e4ccf21e38e0fd7532c23fb1486a216c9ac668409ef463f4eb0ef8dc7", func := "loftblock/loftblocklaw47.InspectLogs", spec := "inspectLogs", unfollowed := true, recurses := true, named := ["loftblock/inspect.months"], apart := false, laid := [("loftblock/inspect.months", laid_loftblock_inspect_months)], narrowed := true }
def InspectLogsUptoSaid : Prop := inspectLogsUptoRow.holds Tryd.pinned (OpenSpec.upto inspectLogsSpec)

/-- 'loftblocklaw47.InspectMoves', WHERE WHAT IT READS IS OF BULK AT MOST 1048576: true; the input reads as it did. -/
def inspectMovesUptoRow : OpenClaim := { program := "ytfojipgbenbigaadoor", sum := "02ff7f6e4ccf21e38e0fd7532c23fb1486a216c9ac668409ef463f4eb0ef8dc7", func := "loftblock/loftblocklaw47.InspectMoves", spec := "inspectMoves", unfollowed := true, recurses := true, named := ["loftblock/inspect.months"], apart := false, laid := [("loftblock/inspect.months", laid_loftblock_inspect_months)], narrowed := true }
def InspectMovesUptoSaid : Prop := inspectMovesUptoRow.holds Tryd.pinned (OpenSpec.upto inspectMovesSpec)

/-- 'loftblocklaw47.InspectFinds', WHERE WHAT IT READS IS OF BULK AT MOST 1048576: true; the input reads as it did. -/
def inspectFindsUptoRow : OpenClaim := { program := "ytfojipgbenbigaadoor", sum := "02ff7f6e4ccf21e38e0fd7532c23fb1486a216c9ac668409ef463f4eb0ef8dc7", func := "loftblock/loftblocklaw47.InspectFinds", spec := "inspectFinds", unfollowed := true, recurses := true, named := ["loftblock/inspect.months"], apart := false, laid := [("loftblock/inspect.months", laid_loftblock_inspect_months)], narrowed := true }
def InspectFindsUptoSaid : Prop := inspectFindsUptoRow.holds Tryd.pinned (OpenSpec.upto inspectFindsSpec)

end Rows
end Go.Proofs.YtfojipgbenbigaaDoor
