/-
  No cell of these rows narrows 'for every input' (looked for: loops, veiled, ifaces, maps, wideKeys, modest, calm, conditions, laid).
  DERIVED. THE GIVEN ROWS OF THIS SEAT. 4 by the template 'for every input the law returns true; each argument reads behind the call as it read before'; 0 by the template 'total and deterministic' (their statements: YtbgkgahmicepdaaTotals.lean).
  GIVEN WITH THE SEED: the statements are not yours to turn. If you find one false, say at which input.
  Laid BY PROGRAM, IN A SANDBOX (cutbox-rows.mjs): the forced cells as the released guide's own fill.sh prints them over the translation 0cf021ce09a2508b… (all of the seat's roots in one cut). By AI agents, Wed Nov 11 2026. No macro, syntax, notation, axiom, sorry.
-/
import Derived.Test.YtbgkgahmicepdaaChecked
import GoSem.Claim
import GoSem.ClaimJoined
import GoSem.ClaimMapViews
import Derived.JoinedTies
import Derived.KernelRfl
namespace Go.Proofs.Ytbgkgahmicepdaa
/- THE CELL 'sum', in the pinned program and in every row, IS THE sha256 OF THE DUMP (.gsa) THAT YtbgkgahmicepdaaProg.lean LOADS. Nothing in Lean hashes anything: it is a label: what it is worth is what the hold of that sum in a sandbox is worth. -/
noncomputable def Try.pinned : Pinned := { name := "ytbgkgahmicepdaa", sum := "0cf021ce09a2508b45af818b842a11bbe3eb4731a84abadce34b4fc0de2d1f0a", checked := Try.checked }
namespace Rows
def none {H : Type} : Left H := { results := [], args := [] }

/-- 'loftblocklaw35.MoveGoes': WHATEVER THE INPUT: true; the input reads as it did. -/
def moveGoesSpec : ChangeSpec := { name := "moveGoes", fn := fun _ => fun
  | [d1, d2, d3, d4, d5] => { results := [.lit (.bool true)], args := [d1, d2, d3, d4, d5] }
  | _ => none }
def moveGoesRow : OpenClaim := { program := "ytbgkgahmicepdaa", sum := "0cf021ce09a2508b45af818b842a11bbe3eb4731a84abadce34b4fc0de2d1f0a", func := "loftblock/loftblocklaw35.MoveGoes", spec := "moveGoes", inPlace := ["math/bits.Add64", "math/bits.Sub64"], unfollowed := true, recurses := true, named := ["math/bits.divideError", "math/bits.overflowError"], apart := false }
def MoveGoesSaid : Prop := moveGoesRow.holds Try.pinned (OpenSpec.ofChange moveGoesSpec)

/-- ITS FALSE NEIGHBOUR: 'it returns false'. Refute it at one input. -/
def moveGoesWrong : ChangeSpec := { name := "moveGoes", fn := fun _ => fun
  | [d1, d2, d3, d4, d5] => { results := [.lit (.bool false)], args := [d1, d2, d3, d4, d5] }
  | _ => none }
def MoveGoesWrongFalsely : Prop := moveGoesRow.holds Try.pinned (OpenSpec.ofChange moveGoesWrong)

/-- 'loftblocklaw35.MoveStops': WHATEVER THE INPUT: true; the input reads as it did. -/
def moveStopsSpec : ChangeSpec := { name := "moveStops", fn := fun _ => fun
  | [d1, d2, d3, d4, d5] => { results := [.lit (.bool true)], args := [d1, d2, d3, d4, d5] }
  | _ => none }
def moveStopsRow : OpenClaim := { program := "ytbgkgahmicepdaa", sum := "0cf021ce09a2508b45af818b842a11bbe3eb4731a84abadce34b4fc0de2d1f0a", func := "loftblock/loftblocklaw35.MoveStops", spec := "moveStops", inPlace := ["math/bits.Add64", "math/bits.Sub64"], unfollowed := true, recurses := true, named := ["math/bits.divideError", "math/bits.overflowError"], apart := false }
def MoveStopsSaid : Prop := moveStopsRow.holds Try.pinned (OpenSpec.ofChange moveStopsSpec)

/-- ITS FALSE NEIGHBOUR: 'it returns false'. Refute it at one input. -/
def moveStopsWrong : ChangeSpec := { name := "moveStops", fn := fun _ => fun
  | [d1, d2, d3, d4, d5] => { results := [.lit (.bool false)], args := [d1, d2, d3, d4, d5] }
  | _ => none }
def MoveStopsWrongFalsely : Prop := moveStopsRow.holds Try.pinned (OpenSpec.ofChange moveStopsWrong)

/-- 'loftblocklaw35.MoveFaster': WHATEVER THE INPUT: true; the input reads as it did. -/
def moveFasterSpec : ChangeSpec := { name := "moveFaster", fn := fun _ => fun
  | [d1, d2, d3, d4, d5, d6] => { results := [.lit (.bool true)], args := [d1, d2, d3, d4, d5, d6] }
  | _ => none }
def moveFasterRow : OpenClaim := { program := "ytbgkgahmicepdaa", sum := "0cf021ce09a2508b45af818b842a11bbe3eb4731a84abadce34b4fc0de2d1f0a", func := "loftblock/loftblocklaw35.MoveFaster", spec := "moveFaster", inPlace := ["math/bits.Add64", "math/bits.Sub64"], unfollowed := true, recurses := true, named := ["math/bits.divideError", "math/bits.overflowError"], apart := false }
def MoveFasterSaid : Prop := moveFasterRow.holds Try.pinned (OpenSpec.ofChange moveFasterSpec)

/-- ITS FALSE NEIGHBOUR: 'it returns false'. Refute it at one input. -/
def moveFasterWrong : ChangeSpec := { name := "moveFaster", fn := fun _ => fun
  | [d1, d2, d3, d4, d5, d6] => { results := [.lit (.bool false)], args := [d1, d2, d3, d4, d5, d6] }
  | _ => none }
def MoveFasterWrongFalsely : Prop := moveFasterRow.holds Try.pinned (OpenSpec.ofChange moveFasterWrong)

/-- 'loftblocklaw35.MoveSmooth': WHATEVER THE INPUT: true; the input reads as it did. -/
def moveSmoothSpec : ChangeSpec := { name := "moveSmooth", fn := fun _ => fun
  | [d1, d2, d3, d4] => { results := [.lit (.bool true)], args := [d1, d2, d3, d4] }
  | _ => none }
def moveSmoothRow : OpenClaim := { program := "ytbgkgahmicepdaa", sum := "0cf021ce09a2508b45af818b842a11bbe3eb4731a84abadce34b4fc0de2d1f0a", func := "loftblock/loftblocklaw35.MoveSmooth", spec := "moveSmooth", inPlace := ["math/bits.Add64", "math/bits.Sub64"], unfollowed := true, recurses := true, named := ["math/bits.divideError", "math/bits.overflowError"], apart := false }
def MoveSmoothSaid : Prop := moveSmoothRow.holds Try.pinned (OpenSpec.ofChange moveSmoothSpec)

/-- ITS FALSE NEIGHBOUR: 'it returns false'. Refute it at one input. -/
def moveSmoothWrong : ChangeSpec := { name := "moveSmooth", fn := fun _ => fun
  | [d1, d2, d3, d4] => { results := [.lit (.bool false)], args := [d1, d2, d3, d4] }
  | _ => none }
def MoveSmoothWrongFalsely : Prop := moveSmoothRow.holds Try.pinned (OpenSpec.ofChange moveSmoothWrong)

/- THE SECOND FORM. 'bulk': how many values and letters a reading holds, each counted each time it is reached (what is shared counts as often as it is met; a slice's spare places count too). A statement '..UptoSaid' is the law's where the arguments, and the package variables that the reading takes, are together of bulk at most 1048576: NARROWER than '..Said'. Prove '..Said' where nothing that the law and all that it calls make is longer than what came in: it says more and counts as full. Else prove '..UptoSaid'. A law counts once. -/
mutual
def uptoBulk {H : Type} : DataW H → Nat
  | .lit (.string bytes) => bytes.length + 1
  | .lit _ => 1
  | .nil => 1
  | .ptr d => uptoBulk d + 1
  | .slice elems spare => uptoBulkAll elems + uptoBulkAll spare + 1
  | .agg parts => uptoBulkAll parts + 1
  | .iface _ d => uptoBulk d + 1
  | .map entries => uptoBulkEntries entries + 1
  | .held _ => 1
def uptoBulkAll {H : Type} : List (DataW H) → Nat
  | [] => 0
  | d :: r => uptoBulk d + uptoBulkAll r
def uptoBulkEntries {H : Type} : List (Lit × DataW H) → Nat
  | [] => 0
  | x :: r => uptoBulkEntry x + uptoBulkEntries r
def uptoBulkEntry {H : Type} : Lit × DataW H → Nat
  | (.string bytes, d) => bytes.length + uptoBulk d + 1
  | (_, d) => uptoBulk d + 1
 end
def uptoSmall : (H : Type) → List (DataW H) → Bool := fun _ ds => decide (uptoBulkAll ds ≤ 1048576)
def OpenSpec.upto (s : _root_.Go.ChangeSpec) : _root_.Go.OpenSpec := { _root_.Go.OpenSpec.ofChange s with cond := some uptoSmall }

/-- 'loftblocklaw35.MoveGoes', WHERE WHAT IT READS IS OF BULK AT MOST 1048576: true; the input reads as it did. -/
def moveGoesUptoRow : OpenClaim := { program := "ytbgkgahmicepdaa", sum := "0cf021ce09a2508b45af818b842a11bbe3eb4731a84abadce34b4fc0de2d1f0a", func := "loftblock/loftblocklaw35.MoveGoes", spec := "moveGoes", inPlace := ["math/bits.Add64", "math/bits.Sub64"], unfollowed := true, recurses := true, named := ["math/bits.divideError", "math/bits.overflowError"], apart := false, narrowed := true }
def MoveGoesUptoSaid : Prop := moveGoesUptoRow.holds Try.pinned (OpenSpec.upto moveGoesSpec)

/-- 'loftblocklaw35.MoveStops', WHERE WHAT IT READS IS OF BULK AT MOST 1048576: true; the input reads as it did. -/
def moveStopsUptoRow : OpenClaim := { program := "ytbgkgahmicepdaa", sum := "0cf021ce09a2508b45af818b842a11bbe3eb4731a84abadce34b4fc0de2d1f0a", func := "loftblock/loftblocklaw35.MoveStops", spec := "moveStops", inPlace := ["math/bits.Add64", "math/bits.Sub64"], unfollowed := true, recurses := true, named := ["math/bits.divideError", "math/bits.overflowError"], apart := false, narrowed := true }
def MoveStopsUptoSaid : Prop := moveStopsUptoRow.holds Try.pinned (OpenSpec.upto moveStopsSpec)

/-- 'loftblocklaw35.MoveFaster', WHERE WHAT IT READS IS OF BULK AT MOST 1048576: true; the input reads as it did. -/
def moveFasterUptoRow : OpenClaim := { program := "ytbgkgahmicepdaa", sum := "0cf021ce09a2508b45af818b842a11bbe3eb4731a84abadce34b4fc0de2d1f0a", func := "loftblock/loftblocklaw35.MoveFaster", spec := "moveFaster", inPlace := ["math/bits.Add64", "math/bits.Sub64"], unfollowed := true, recurses := true, named := ["math/bits.divideError", "math/bits.overflowError"], apart := false, narrowed := true }
def MoveFasterUptoSaid : Prop := moveFasterUptoRow.holds Try.pinned (OpenSpec.upto moveFasterSpec)

/-- 'loftblocklaw35.MoveSmooth', WHERE WHAT IT READS IS OF BULK AT MOST 1048576: true; the input reads as it did. -/
def moveSmoothUptoRow : OpenClaim := { program := "ytbgkgahmicepdaa", sum := "0cf021ce09a2508b45af818b842a11bbe3eb4731a84abadce34b4fc0de2d1f0a", func := "loftblock/loftblocklaw35.MoveSmooth", spec := "moveSmooth", inPlace := ["math/bits.Add64", "math/bits.Sub64"], unfollowed := true, recurses := true, named := ["math/bits.divideError", "math/bits.overflowError"], apart := false, narrowed := true }
def MoveSmoothUptoSaid : Prop := moveSmoothUptoRow.holds Try.pinned (OpenSpec.upto moveSmoothSpec)

end Rows
end Go.Proofs.Ytbgkgahmicepdaa
