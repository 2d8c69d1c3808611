/-
  WHAT THE ROWS' LISTED VARIABLE GIVES THE WALKS: the months' table in memory; and that the door's own heap meets the condition.
-/
import Derived.Test.YtfojipgbenbigaaDoorFrame
import Derived.Test.YtfojipgbenbigaaDoorLeafs
import Derived.LaidMore
import Derived.Stop.Joined
import Derived.Lib.LaidTab
namespace Go.Proofs.YtfojipgbenbigaaDoor
open Go.ChangeShapes Go.WideShapes Go.ChangeAt Go.WideMaps Go.WideElems Go.RowKit

def laidList : List (String × DataW Unit) := [("loftblock/inspect.months", Rows.laid_loftblock_inspect_months)]
theorem gMonths : Tryd.prog.globalNamed "loftblock/inspect.months" = some 0 := by kernel_rfl
theorem tMonths : (Tryd.prog.globals[0]?).map (·.type) = some 75 := by kernel_rfl
theorem door_met (os : Os) (args : Array Value) : laidMetH Tryd.prog laidList ((World.doorLaid Tryd.prog 400 os).forCall (fun _ _ => 0) ⟨#[], args, []⟩).memory :=
  laidMetH_of_parts3 (fuel := 8) (laidMet_of_run' 8 (by kernel_rfl) (by kernel_rfl)) (by kernel_rfl) (by kernel_rfl)
theorem months_of_laid {W : World} (h : laidMetH Tryd.prog laidList W) : Months W := by
  rw [MakeChecks.laidMetH_plain _ _ _ (by kernel_rfl)] at h
  have hT : Lib.TabIs Tryd.prog W "loftblock/inspect.months" .i64 [31, 28, 31, 30, 31, 30, 31, 31, 30, 31, 30, 31] :=
    Lib.tabIs_of_head (rest := []) gMonths tMonths Tryd.underlying75 Tryd.underlying3 (by kernel_rfl) (by kernel_rfl) h
  exact fun i hi => hT.cell gMonths i hi
end Go.Proofs.YtfojipgbenbigaaDoor
