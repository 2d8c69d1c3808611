/-
  WHAT THE ROWS' LISTED VARIABLES GIVE THE WALKS: the two tables in memory; and that the door's own heap meets the condition.
-/
import Derived.Test.YtfiefmhnonddhaaDoorFrame
import Derived.Test.YtfiefmhnonddhaaDoorTz
import Derived.LaidMore
import Derived.Stop.Joined
import Derived.Stop.LaidErr
import Derived.Lib.LaidTab
namespace Go.Proofs.YtfiefmhnonddhaaDoor
open Go.ChangeShapes Go.WideShapes Go.ChangeAt Go.WideMaps Go.WideElems Go.RowKit

def laidList : List (String × DataW Unit) := [("math/bits.deBruijn32tab", Rows.laid_math_bits_deBruijn32tab), ("math/bits.deBruijn64tab", Rows.laid_math_bits_deBruijn64tab)]
theorem g32 : Tryd.prog.globalNamed "math/bits.deBruijn32tab" = some 0 := by kernel_rfl
theorem t32 : (Tryd.prog.globals[0]?).map (·.type) = some 86 := by kernel_rfl
theorem g64 : Tryd.prog.globalNamed "math/bits.deBruijn64tab" = some 1 := by kernel_rfl
theorem t64 : (Tryd.prog.globals[1]?).map (·.type) = some 87 := by kernel_rfl
theorem door_met (os : Os) (args : Array Value) : laidMetH Tryd.prog laidList ((World.doorLaid Tryd.prog 400 os).forCall (fun _ _ => 0) ⟨#[], args, []⟩).memory :=
  laidMetH_of_parts3 (fuel := 8) (laidMet_of_run' 8 (by kernel_rfl) (by kernel_rfl)) (by kernel_rfl) (by kernel_rfl)
theorem tabs_of_laid {W : World} (h : laidMetH Tryd.prog laidList W) : Tabs W := by
  rw [MakeChecks.laidMetH_plain _ _ _ (by kernel_rfl)] at h
  have h1 : Lib.TabIs Tryd.prog W "math/bits.deBruijn32tab" .u8 (Lib.deBruijn32tab.map Int.ofNat) :=
    Lib.tabIs_of_head (rest := [("math/bits.deBruijn64tab", Rows.laid_math_bits_deBruijn64tab)]) g32 t32 Tryd.underlying86 Tryd.underlying5 (by kernel_rfl) (by kernel_rfl) h
  have h2 : Lib.TabIs Tryd.prog W "math/bits.deBruijn64tab" .u8 (Lib.deBruijn64tab.map Int.ofNat) :=
    Lib.tabIs_of_head (rest := []) g64 t64 Tryd.underlying87 Tryd.underlying5 (by kernel_rfl) (by kernel_rfl) h.tail
  have k1 : ∀ j, j < 32 → W.cell? ⟨0, j, none⟩ = some (.int .u8 (Lib.deBruijn32tab.getD j 0)) := fun j hj => by
    have := h1.cell g32 j (by simpa [Lib.deBruijn32tab] using hj)
    rw [this, List.getD_eq_getElem?_getD, List.getD_eq_getElem?_getD, List.getElem?_map]
    have hl : j < Lib.deBruijn32tab.length := by simpa [Lib.deBruijn32tab] using hj
    rw [List.getElem?_eq_getElem hl]
    rfl
  have k2 : ∀ j, j < 64 → W.cell? ⟨1, j, none⟩ = some (.int .u8 (Lib.deBruijn64tab.getD j 0)) := fun j hj => by
    have hl : j < Lib.deBruijn64tab.length := by simpa [Lib.deBruijn64tab] using hj
    have := h2.cell g64 j (by rw [List.length_map]; exact hl)
    rw [this, List.getD_eq_getElem?_getD, List.getD_eq_getElem?_getD, List.getElem?_map, List.getElem?_eq_getElem hl]
    rfl
  exact ⟨fun j hj => k1 j (by simpa [Lib.deBruijn32tab] using hj), fun j hj => k2 j (by simpa [Lib.deBruijn64tab] using hj), World.block_lt_of_cell? _ _ (k2 0 (by decide))⟩
end Go.Proofs.YtfiefmhnonddhaaDoor
