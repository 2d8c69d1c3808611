/-
  DERIVED. GIVEN WITH THE SEED: THE CARDS: each row of YtfiefmhnonddhaaDoorRows.lean that lists a variable, with what it lists TIED to the program's text (the seventh form; the later family's looks); each row that meets fmt, with fmt's text TOLD by the authors' own Lean function (tested against real Go, not proved from fmt's source: count such statements apart). THE CARD IS WHAT COUNTS. Prove the row's statement (the work); the ties are given (YtfiefmhnonddhaaDoorTie.lean); close each card by the builder's one call (the guide's Derived/Test/ToyasCard.lean, 'card_holds'). Laid BY PROGRAM, IN A SANDBOX (cutbox-door.mjs). By AI agents, Wed Nov 11 2026. No macro, syntax, notation, axiom, sorry.
-/
import Derived.Test.YtfiefmhnonddhaaDoorRows
import GoSem.ClaimSeven
namespace Go.Proofs.YtfiefmhnonddhaaDoor
namespace Rows

/-- THE TIED CARD OF 'loftblocklaw07.SubsetsFinds'. -/
def subsetsFindsCard : Claim7 := { stood := { row := subsetsFindsRow, standIns := [], harness := (true, "804d61353d58b6ebdc2db42269cf3c548498c43c5ca69bdccbf4c26a89e06e71"), looks := false }, kinds := [], alts := [], laidByText := true, laidKinds := [.data, .data], laidTests := true, laidLooks := .later }
def SubsetsFindsCardSaid : Prop := Claim7.holds Tryd.pinned (.plain (OpenSpec.ofChange subsetsFindsSpec)) subsetsFindsCard

/-- THE TIED CARD OF 'loftblocklaw07.SubsetsOrder'. -/
def subsetsOrderCard : Claim7 := { stood := { row := subsetsOrderRow, standIns := [], harness := (true, "804d61353d58b6ebdc2db42269cf3c548498c43c5ca69bdccbf4c26a89e06e71"), looks := false }, kinds := [], alts := [], laidByText := true, laidKinds := [.data, .data], laidTests := true, laidLooks := .later }
def SubsetsOrderCardSaid : Prop := Claim7.holds Tryd.pinned (.plain (OpenSpec.ofChange subsetsOrderSpec)) subsetsOrderCard

/-- THE TIED CARD OF 'loftblocklaw07.SubsetsSums'. -/
def subsetsSumsCard : Claim7 := { stood := { row := subsetsSumsRow, standIns := [], harness := (true, "804d61353d58b6ebdc2db42269cf3c548498c43c5ca69bdccbf4c26a89e06e71"), looks := false }, kinds := [], alts := [], laidByText := true, laidKinds := [.data, .data], laidTests := true, laidLooks := .later }
def SubsetsSumsCardSaid : Prop := Claim7.holds Tryd.pinned (.plain (OpenSpec.ofChange subsetsSumsSpec)) subsetsSumsCard

/-- THE TIED CARD OF 'loftblocklaw07.SubsetsParts'. -/
def subsetsPartsCard : Claim7 := { stood := { row := subsetsPartsRow, standIns := [], harness := (true, "804d61353d58b6ebdc2db42269cf3c548498c43c5ca69bdccbf4c26a89e06e71"), looks := false }, kinds := [], alts := [], laidByText := true, laidKinds := [.data, .data], laidTests := true, laidLooks := .later }
def SubsetsPartsCardSaid : Prop := Claim7.holds Tryd.pinned (.plain (OpenSpec.ofChange subsetsPartsSpec)) subsetsPartsCard

/-- THE TIED CARD OF 'loftblocklaw07.SubsetsMost'. -/
def subsetsMostCard : Claim7 := { stood := { row := subsetsMostRow, standIns := [], harness := (true, "804d61353d58b6ebdc2db42269cf3c548498c43c5ca69bdccbf4c26a89e06e71"), looks := false }, kinds := [], alts := [], laidByText := true, laidKinds := [.data, .data], laidTests := true, laidLooks := .later }
def SubsetsMostCardSaid : Prop := Claim7.holds Tryd.pinned (.plain (OpenSpec.ofChange subsetsMostSpec)) subsetsMostCard

/-- THE TIED CARD OF 'loftblocklaw07.SubsetsPairs'. -/
def subsetsPairsCard : Claim7 := { stood := { row := subsetsPairsRow, standIns := [], harness := (true, "804d61353d58b6ebdc2db42269cf3c548498c43c5ca69bdccbf4c26a89e06e71"), looks := false }, kinds := [], alts := [], laidByText := true, laidKinds := [.data, .data], laidTests := true, laidLooks := .later }
def SubsetsPairsCardSaid : Prop := Claim7.holds Tryd.pinned (.plain (OpenSpec.ofChange subsetsPairsSpec)) subsetsPairsCard

/-- THE SECOND FORM's CARD OF 'loftblocklaw07.SubsetsFinds'. -/
def subsetsFindsUptoCard : Claim7 := { stood := { row := subsetsFindsUptoRow, standIns := [], harness := (true, "804d61353d58b6ebdc2db42269cf3c548498c43c5ca69bdccbf4c26a89e06e71"), looks := false }, kinds := [], alts := [], laidByText := true, laidKinds := [.data, .data], laidTests := true, laidLooks := .later }
def SubsetsFindsUptoCardSaid : Prop := Claim7.holds Tryd.pinned (.plain (OpenSpec.upto subsetsFindsSpec)) subsetsFindsUptoCard

/-- THE SECOND FORM's CARD OF 'loftblocklaw07.SubsetsOrder'. -/
def subsetsOrderUptoCard : Claim7 := { stood := { row := subsetsOrderUptoRow, standIns := [], harness := (true, "804d61353d58b6ebdc2db42269cf3c548498c43c5ca69bdccbf4c26a89e06e71"), looks := false }, kinds := [], alts := [], laidByText := true, laidKinds := [.data, .data], laidTests := true, laidLooks := .later }
def SubsetsOrderUptoCardSaid : Prop := Claim7.holds Tryd.pinned (.plain (OpenSpec.upto subsetsOrderSpec)) subsetsOrderUptoCard

/-- THE SECOND FORM's CARD OF 'loftblocklaw07.SubsetsSums'. -/
def subsetsSumsUptoCard : Claim7 := { stood := { row := subsetsSumsUptoRow, standIns := [], harness := (true, "804d61353d58b6ebdc2db42269cf3c548498c43c5ca69bdccbf4c26a89e06e71"), looks := false }, kinds := [], alts := [], laidByText := true, laidKinds := [.data, .data], laidTests := true, laidLooks := .later }
def SubsetsSumsUptoCardSaid : Prop := Claim7.holds Tryd.pinned (.plain (OpenSpec.upto subsetsSumsSpec)) subsetsSumsUptoCard

/-- THE SECOND FORM's CARD OF 'loftblocklaw07.SubsetsParts'. -/
def subsetsPartsUptoCard : Claim7 := { stood := { row := subsetsPartsUptoRow, standIns := [], harness := (true, "804d61353d58b6ebdc2db42269cf3c548498c43c5ca69bdccbf4c26a89e06e71"), looks := false }, kinds := [], alts := [], laidByText := true, laidKinds := [.data, .data], laidTests := true, laidLooks := .later }
def SubsetsPartsUptoCardSaid : Prop := Claim7.holds Tryd.pinned (.plain (OpenSpec.upto subsetsPartsSpec)) subsetsPartsUptoCard

/-- THE SECOND FORM's CARD OF 'loftblocklaw07.SubsetsMost'. -/
def subsetsMostUptoCard : Claim7 := { stood := { row := subsetsMostUptoRow, standIns := [], harness := (true, "804d61353d58b6ebdc2db42269cf3c548498c43c5ca69bdccbf4c26a89e06e71"), looks := false }, kinds := [], alts := [], laidByText := true, laidKinds := [.data, .data], laidTests := true, laidLooks := .later }
def SubsetsMostUptoCardSaid : Prop := Claim7.holds Tryd.pinned (.plain (OpenSpec.upto subsetsMostSpec)) subsetsMostUptoCard

/-- THE SECOND FORM's CARD OF 'loftblocklaw07.SubsetsPairs'. -/
def subsetsPairsUptoCard : Claim7 := { stood := { row := subsetsPairsUptoRow, standIns := [], harness := (true, "804d61353d58b6ebdc2db42269cf3c548498c43c5ca69bdccbf4c26a89e06e71"), looks := false }, kinds := [], alts := [], laidByText := true, laidKinds := [.data, .data], laidTests := true, laidLooks := .later }
def SubsetsPairsUptoCardSaid : Prop := Claim7.holds Tryd.pinned (.plain (OpenSpec.upto subsetsPairsSpec)) subsetsPairsUptoCard
end Rows
end Go.Proofs.YtfiefmhnonddhaaDoor
