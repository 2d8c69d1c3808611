/-
  DERIVED. GIVEN WITH THE SEED: THE CARDS: each row of YtfkmnneieglolaaGreatDoorRows.lean that lists a variable, with what it lists TIED to the program's text (the seventh form; the later family's looks); each row that meets fmt, with fmt's text TOLD by the authors' own Lean function (tested against real Go, not proved from fmt's source: count such statements apart). THE CARD IS WHAT COUNTS. Prove the row's statement (the work); the ties are given (YtfkmnneieglolaaGreatDoorTie.lean); close each card by the builder's one call (the guide's Derived/Test/ToyasCard.lean, 'card_holds'). Laid BY PROGRAM, IN A SANDBOX (cutbox-door.mjs). By AI agents, Wed Nov 11 2026. No macro, syntax, notation, axiom, sorry.
-/
import Derived.Test.YtfkmnneieglolaaGreatDoorRows
import GoSem.ClaimSeven
namespace Go.Proofs.YtfkmnneieglolaaGreatDoor
namespace Rows

/-- THE TIED CARD OF 'loftblocktop.TopFilled'. -/
def topFilledCard : Claim7 := { stood := { row := topFilledRow, standIns := [], harness := (true, "570d2d62708d447caca8f32a2aa682ebe3f41c52e8b1f307529dac5953814af7"), looks := false }, kinds := [], alts := [], laidByText := true, laidKinds := [.data, .data, .data], laidTests := true, laidLooks := .later }
def TopFilledCardSaid : Prop := Claim7.holds Tryz.pinned (.plain (OpenSpec.ofChange topFilledSpec)) topFilledCard

/-- THE SECOND FORM's CARD OF 'loftblocktop.TopFilled'. -/
def topFilledUptoCard : Claim7 := { stood := { row := topFilledUptoRow, standIns := [], harness := (true, "570d2d62708d447caca8f32a2aa682ebe3f41c52e8b1f307529dac5953814af7"), looks := false }, kinds := [], alts := [], laidByText := true, laidKinds := [.data, .data, .data], laidTests := true, laidLooks := .later }
def TopFilledUptoCardSaid : Prop := Claim7.holds Tryz.pinned (.plain (OpenSpec.upto topFilledSpec)) topFilledUptoCard
end Rows
end Go.Proofs.YtfkmnneieglolaaGreatDoor
