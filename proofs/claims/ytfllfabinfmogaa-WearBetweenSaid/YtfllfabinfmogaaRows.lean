/-
  No cell of these rows narrows 'for every input' (looked for: loops, veiled, ifaces, maps, wideKeys, modest, calm, conditions, laid).
  DERIVED. THE GIVEN ROWS OF THIS SEAT. 4 by the template 'for every input the law returns true; each argument reads behind the call as it read before'; 0 by the template 'total and deterministic' (their statements: YtfllfabinfmogaaTotals.lean).
  GIVEN WITH THE SEED: the statements are not yours to turn. If you find one false, say at which input.
  Laid BY PROGRAM, IN A SANDBOX (cutbox-rows.mjs): the forced cells as the released guide's own fill.sh prints them over the translation 613cf8e7b65d5eac… (all of the seat's roots in one cut). By AI agents, Wed Nov 11 2026. No macro, syntax, notation, axiom, sorry.
-/
import Derived.Test.YtfllfabinfmogaaChecked
import GoSem.Claim
import GoSem.ClaimJoined
import GoSem.ClaimMapViews
import Derived.JoinedTies
import Derived.KernelRfl
namespace Go.Proofs.Ytfllfabinfmogaa
/- THE CELL 'sum', in the pinned program and in every row, IS THE sha256 OF THE DUMP (.gsa) THAT YtfllfabinfmogaaProg.lean LOADS. Nothing in Lean hashes anything: it is a label: what it is worth is what the hold of that sum in a sandbox is worth. -/
noncomputable def Try.pinned : Pinned := { name := "ytfllfabinfmogaa", sum := "613cf8e7b65d5eacf59615d9c13c2e1c78ecc0e79e81d82bdcc85f327727ca43", checked := Try.checked }
namespace Rows
def none {H : Type} : Left H := { results := [], args := [] }

/-- 'loftblocklaw46.WearWays': WHATEVER THE INPUT: true; the input reads as it did. -/
def wearWaysSpec : ChangeSpec := { name := "wearWays", fn := fun _ => fun
  | [d1, d2, d3, d4] => { results := [.lit (.bool true)], args := [d1, d2, d3, d4] }
  | _ => none }
def wearWaysRow : OpenClaim := { program := "ytfllfabinfmogaa", sum := "613cf8e7b65d5eacf59615d9c13c2e1c78ecc0e79e81d82bdcc85f327727ca43", func := "loftblock/loftblocklaw46.WearWays", spec := "wearWays", unfollowed := true, recurses := true, apart := false }
def WearWaysSaid : Prop := wearWaysRow.holds Try.pinned (OpenSpec.ofChange wearWaysSpec)

/-- ITS FALSE NEIGHBOUR: 'it returns false'. Refute it at one input. -/
def wearWaysWrong : ChangeSpec := { name := "wearWays", fn := fun _ => fun
  | [d1, d2, d3, d4] => { results := [.lit (.bool false)], args := [d1, d2, d3, d4] }
  | _ => none }
def WearWaysWrongFalsely : Prop := wearWaysRow.holds Try.pinned (OpenSpec.ofChange wearWaysWrong)

/-- 'loftblocklaw46.WearSpots': WHATEVER THE INPUT: true; the input reads as it did. -/
def wearSpotsSpec : ChangeSpec := { name := "wearSpots", fn := fun _ => fun
  | [d1, d2] => { results := [.lit (.bool true)], args := [d1, d2] }
  | _ => none }
def wearSpotsRow : OpenClaim := { program := "ytfllfabinfmogaa", sum := "613cf8e7b65d5eacf59615d9c13c2e1c78ecc0e79e81d82bdcc85f327727ca43", func := "loftblock/loftblocklaw46.WearSpots", spec := "wearSpots", unfollowed := true, recurses := true, apart := false }
def WearSpotsSaid : Prop := wearSpotsRow.holds Try.pinned (OpenSpec.ofChange wearSpotsSpec)

/-- ITS FALSE NEIGHBOUR: 'it returns false'. Refute it at one input. -/
def wearSpotsWrong : ChangeSpec := { name := "wearSpots", fn := fun _ => fun
  | [d1, d2] => { results := [.lit (.bool false)], args := [d1, d2] }
  | _ => none }
def WearSpotsWrongFalsely : Prop := wearSpotsRow.holds Try.pinned (OpenSpec.ofChange wearSpotsWrong)

/-- 'loftblocklaw46.WearCovers': WHATEVER THE INPUT: true; the input reads as it did. -/
def wearCoversSpec : ChangeSpec := { name := "wearCovers", fn := fun _ => fun
  | [d1, d2, d3] => { results := [.lit (.bool true)], args := [d1, d2, d3] }
  | _ => none }
def wearCoversRow : OpenClaim := { program := "ytfllfabinfmogaa", sum := "613cf8e7b65d5eacf59615d9c13c2e1c78ecc0e79e81d82bdcc85f327727ca43", func := "loftblock/loftblocklaw46.WearCovers", spec := "wearCovers", unfollowed := true, recurses := true, apart := false }
def WearCoversSaid : Prop := wearCoversRow.holds Try.pinned (OpenSpec.ofChange wearCoversSpec)

/-- ITS FALSE NEIGHBOUR: 'it returns false'. Refute it at one input. -/
def wearCoversWrong : ChangeSpec := { name := "wearCovers", fn := fun _ => fun
  | [d1, d2, d3] => { results := [.lit (.bool false)], args := [d1, d2, d3] }
  | _ => none }
def WearCoversWrongFalsely : Prop := wearCoversRow.holds Try.pinned (OpenSpec.ofChange wearCoversWrong)

/-- 'loftblocklaw46.WearBetween': WHATEVER THE INPUT: true; the input reads as it did. -/
def wearBetweenSpec : ChangeSpec := { name := "wearBetween", fn := fun _ => fun
  | [d1, d2, d3] => { results := [.lit (.bool true)], args := [d1, d2, d3] }
  | _ => none }
def wearBetweenRow : OpenClaim := { program := "ytfllfabinfmogaa", sum := "613cf8e7b65d5eacf59615d9c13c2e1c78ecc0e79e81d82bdcc85f327727ca43", func := "loftblock/loftblocklaw46.WearBetween", spec := "wearBetween", inPlace := ["slices.overlaps[int]"], unfollowed := true, recurses := true, apart := false }
def WearBetweenSaid : Prop := wearBetweenRow.holds Try.pinned (OpenSpec.ofChange wearBetweenSpec)

/-- ITS FALSE NEIGHBOUR: 'it returns false'. Refute it at one input. -/
def wearBetweenWrong : ChangeSpec := { name := "wearBetween", fn := fun _ => fun
  | [d1, d2, d3] => { results := [.lit (.bool false)], args := [d1, d2, d3] }
  | _ => none }
def WearBetweenWrongFalsely : Prop := wearBetweenRow.holds Try.pinned (OpenSpec.ofChange wearBetweenWrong)

/- THE SECOND FORM. 'bulk': how many values and letters a reading holds, each counted each time it is reached (what is shared counts as often as it is met; a slice's spare places count too). A statement '..UptoSaid' is the law's where the arguments, and the package variables that the reading takes, are together of bulk at most 1048576: NARROWER than '..Said'. Prove '..Said' where nothing that the law and all that it calls make is longer than what came in: it says more and counts as full. Else prove '..UptoSaid'. A law counts once. -/
mutual
def uptoBulk {H : Type} : DataW H → Nat
  | .lit (.string bytes) => bytes.length + 1
  | .lit _ => 1
  | .nil => 1
  | .ptr d => uptoBulk d + 1
  | .slice elems spare => uptoBulkAll elems + uptoBulkAll spare + 1
  | .agg parts => uptoBulkAll parts + 1
  | .iface _ d => uptoBulk d + 1
  | .map entries => uptoBulkEntries entries + 1
  | .held _ => 1
def uptoBulkAll {H : Type} : List (DataW H) → Nat
  | [] => 0
  | d :: r => uptoBulk d + uptoBulkAll r
def uptoBulkEntries {H : Type} : List (Lit × DataW H) → Nat
  | [] => 0
  | x :: r => uptoBulkEntry x + uptoBulkEntries r
def uptoBulkEntry {H : Type} : Lit × DataW H → Nat
  | (.string bytes, d) => bytes.length + uptoBulk d + 1
  | (_, d) => uptoBulk d + 1
 end
def uptoSmall : (H : Type) → List (DataW H) → Bool := fun _ ds => decide (uptoBulkAll ds ≤ 1048576)
def OpenSpec.upto (s : _root_.Go.ChangeSpec) : _root_.Go.OpenSpec := { _root_.Go.OpenSpec.ofChange s with cond := some uptoSmall }

/-- 'loftblocklaw46.WearWays', WHERE WHAT IT READS IS OF BULK AT MOST 1048576: true; the input reads as it did. -/
def wearWaysUptoRow : OpenClaim := { program := "ytfllfabinfmogaa", sum := "613cf8e7b65d5eacf59615d9c13c2e1c78ecc0e79e81d82bdcc85f327727ca43", func := "loftblock/loftblocklaw46.WearWays", spec := "wearWays", unfollowed := true, recurses := true, apart := false, narrowed := true }
def WearWaysUptoSaid : Prop := wearWaysUptoRow.holds Try.pinned (OpenSpec.upto wearWaysSpec)

/-- 'loftblocklaw46.WearSpots', WHERE WHAT IT READS IS OF BULK AT MOST 1048576: true; the input reads as it did. -/
def wearSpotsUptoRow : OpenClaim := { program := "ytfllfabinfmogaa", sum := "613cf8e7b65d5eacf59615d9c13c2e1c78ecc0e79e81d82bdcc85f327727ca43", func := "loftblock/loftblocklaw46.WearSpots", spec := "wearSpots", unfollowed := true, recurses := true, apart := false, narrowed := true }
def WearSpotsUptoSaid : Prop := wearSpotsUptoRow.holds Try.pinned (OpenSpec.upto wearSpotsSpec)

/-- 'loftblocklaw46.WearCovers', WHERE WHAT IT READS IS OF BULK AT MOST 1048576: true; the input reads as it did. -/
def wearCoversUptoRow : OpenClaim := { program := "ytfllfabinfmogaa", sum := "613cf8e7b65d5eacf59615d9c13c2e1c78ecc0e79e81d82bdcc85f327727ca43", func := "loftblock/loftblocklaw46.WearCovers", spec := "wearCovers", unfollowed := true, recurses := true, apart := false, narrowed := true }
def WearCoversUptoSaid : Prop := wearCoversUptoRow.holds Try.pinned (OpenSpec.upto wearCoversSpec)

/-- 'loftblocklaw46.WearBetween', WHERE WHAT IT READS IS OF BULK AT MOST 1048576: true; the input reads as it did. -/
def wearBetweenUptoRow : OpenClaim := { program := "ytfllfabinfmogaa", sum := "613cf8e7b65d5eacf59615d9c13c2e1c78ecc0e79e81d82bdcc85f327727ca43", func := "loftblock/loftblocklaw46.WearBetween", spec := "wearBetween", inPlace := ["slices.overlaps[int]"], unfollowed := true, recurses := true, apart := false, narrowed := true }
def WearBetweenUptoSaid : Prop := wearBetweenUptoRow.holds Try.pinned (OpenSpec.upto wearBetweenSpec)

end Rows
end Go.Proofs.Ytfllfabinfmogaa
