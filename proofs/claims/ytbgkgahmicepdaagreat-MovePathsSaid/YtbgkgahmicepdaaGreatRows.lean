/-
  No cell of these rows narrows 'for every input' (looked for: loops, veiled, ifaces, maps, wideKeys, modest, calm, conditions, laid).
  DERIVED. THE GIVEN ROWS OF THIS SEAT. 2 by the template 'for every input the law returns true; each argument reads behind the call as it read before'; 0 by the template 'total and deterministic' (their statements: YtbgkgahmicepdaaGreatTotals.lean).
  GIVEN WITH THE SEED: the statements are not yours to turn. If you find one false, say at which input.
  Laid BY PROGRAM, IN A SANDBOX (cutbox-rows.mjs): the forced cells as the released guide's own fill.sh prints them over the translation a69d021562d84e2a… (all of the seat's roots in one cut). By AI agents, Wed Nov 11 2026. No macro, syntax, notation, axiom, sorry.
-/
import Derived.Test.YtbgkgahmicepdaaGreatChecked
import GoSem.Claim
import GoSem.ClaimJoined
import GoSem.ClaimMapViews
import Derived.JoinedTies
import Derived.KernelRfl
namespace Go.Proofs.YtbgkgahmicepdaaGreat
/- THE CELL 'sum', in the pinned program and in every row, IS THE sha256 OF THE DUMP (.gsa) THAT YtbgkgahmicepdaaGreatProg.lean LOADS. Nothing in Lean hashes anything: it is a label: what it is worth is what the hold of that sum in a sandbox is worth. -/
noncomputable def Tryz.pinned : Pinned := { name := "ytbgkgahmicepdaagreat", sum := "a69d021562d84e2aee71fc7657c2f6313eeeaf624190f2e9aecc78bc2bf0415f", checked := Tryz.checked }
namespace Rows
def none {H : Type} : Left H := { results := [], args := [] }

/-- 'loftblocklaw35.MoveTimes': WHATEVER THE INPUT: true; the input reads as it did. -/
def moveTimesSpec : ChangeSpec := { name := "moveTimes", fn := fun _ => fun
  | [d1, d2, d3, d4] => { results := [.lit (.bool true)], args := [d1, d2, d3, d4] }
  | _ => none }
def moveTimesRow : OpenClaim := { program := "ytbgkgahmicepdaagreat", sum := "a69d021562d84e2aee71fc7657c2f6313eeeaf624190f2e9aecc78bc2bf0415f", func := "loftblock/loftblocklaw35.MoveTimes", spec := "moveTimes", inPlace := ["math/bits.Add64", "math/bits.Sub64"], unfollowed := true, recurses := true, named := ["math/bits.divideError", "math/bits.overflowError"], apart := false }
def MoveTimesSaid : Prop := moveTimesRow.holds Tryz.pinned (OpenSpec.ofChange moveTimesSpec)

/-- ITS FALSE NEIGHBOUR: 'it returns false'. Refute it at one input. -/
def moveTimesWrong : ChangeSpec := { name := "moveTimes", fn := fun _ => fun
  | [d1, d2, d3, d4] => { results := [.lit (.bool false)], args := [d1, d2, d3, d4] }
  | _ => none }
def MoveTimesWrongFalsely : Prop := moveTimesRow.holds Tryz.pinned (OpenSpec.ofChange moveTimesWrong)

/-- 'loftblocklaw35.MovePaths': WHATEVER THE INPUT: true; the input reads as it did. -/
def movePathsSpec : ChangeSpec := { name := "movePaths", fn := fun _ => fun
  | [d1, d2, d3] => { results := [.lit (.bool true)], args := [d1, d2, d3] }
  | _ => none }
def movePathsRow : OpenClaim := { program := "ytbgkgahmicepdaagreat", sum := "a69d021562d84e2aee71fc7657c2f6313eeeaf624190f2e9aecc78bc2bf0415f", func := "loftblock/loftblocklaw35.MovePaths", spec := "movePaths", inPlace := ["math/bits.Add64", "math/bits.Sub64"], unfollowed := true, recurses := true, named := ["math/bits.divideError", "math/bits.overflowError"], apart := false }
def MovePathsSaid : Prop := movePathsRow.holds Tryz.pinned (OpenSpec.ofChange movePathsSpec)

/-- ITS FALSE NEIGHBOUR: 'it returns false'. Refute it at one input. -/
def movePathsWrong : ChangeSpec := { name := "movePaths", fn := fun _ => fun
  | [d1, d2, d3] => { results := [.lit (.bool false)], args := [d1, d2, d3] }
  | _ => none }
def MovePathsWrongFalsely : Prop := movePathsRow.holds Tryz.pinned (OpenSpec.ofChange movePathsWrong)

/- THE SECOND FORM. 'bulk': how many values and letters a reading holds, each counted each time it is reached (what is shared counts as often as it is met; a slice's spare places count too). A statement '..UptoSaid' is the law's where the arguments, and the package variables that the reading takes, are together of bulk at most 1048576: NARROWER than '..Said'. Prove '..Said' where nothing that the law and all that it calls make is longer than what came in: it says more and counts as full. Else prove '..UptoSaid'. A law counts once. -/
mutual
def uptoBulk {H : Type} : DataW H → Nat
  | .lit (.string bytes) => bytes.length + 1
  | .lit _ => 1
  | .nil => 1
  | .ptr d => uptoBulk d + 1
  | .slice elems spare => uptoBulkAll elems + uptoBulkAll spare + 1
  | .agg parts => uptoBulkAll parts + 1
  | .iface _ d => uptoBulk d + 1
  | .map entries => uptoBulkEntries entries + 1
  | .held _ => 1
def uptoBulkAll {H : Type} : List (DataW H) → Nat
  | [] => 0
  | d :: r => uptoBulk d + uptoBulkAll r
def uptoBulkEntries {H : Type} : List (Lit × DataW H) → Nat
  | [] => 0
  | x :: r => uptoBulkEntry x + uptoBulkEntries r
def uptoBulkEntry {H : Type} : Lit × DataW H → Nat
  | (.string bytes, d) => bytes.length + uptoBulk d + 1
  | (_, d) => uptoBulk d + 1
 end
def uptoSmall : (H : Type) → List (DataW H) → Bool := fun _ ds => decide (uptoBulkAll ds ≤ 1048576)
def OpenSpec.upto (s : _root_.Go.ChangeSpec) : _root_.Go.OpenSpec := { _root_.Go.OpenSpec.ofChange s with cond := some uptoSmall }

/-- 'loftblocklaw35.MoveTimes', WHERE WHAT IT READS IS OF BULK AT MOST 1048576: true; the input reads as it did. -/
def moveTimesUptoRow : OpenClaim := { program := "ytbgkgahmicepdaagreat", sum := "a69d021562d84e2aee71fc7657c2f6313eeeaf624190f2e9aecc78bc2bf0415f", func := "loftblock/loftblocklaw35.MoveTimes", spec := "moveTimes", inPlace := ["math/bits.Add64", "math/bits.Sub64"], unfollowed := true, recurses := true, named := ["math/bits.divideError", "math/bits.overflowError"], apart := false, narrowed := true }
def MoveTimesUptoSaid : Prop := moveTimesUptoRow.holds Tryz.pinned (OpenSpec.upto moveTimesSpec)

/-- 'loftblocklaw35.MovePaths', WHERE WHAT IT READS IS OF BULK AT MOST 1048576: true; the input reads as it did. -/
def movePathsUptoRow : OpenClaim := { program := "ytbgkgahmicepdaagreat", sum := "a69d021562d84e2aee71fc7657c2f6313eeeaf624190f2e9aecc78bc2bf0415f", func := "loftblock/loftblocklaw35.MovePaths", spec := "movePaths", inPlace := ["math/bits.Add64", "math/bits.Sub64"], unfollowed := true, recurses := true, named := ["math/bits.divideError", "math/bits.overflowError"], apart := false, narrowed := true }
def MovePathsUptoSaid : Prop := movePathsUptoRow.holds Tryz.pinned (OpenSpec.upto movePathsSpec)

end Rows
end Go.Proofs.YtbgkgahmicepdaaGreat
