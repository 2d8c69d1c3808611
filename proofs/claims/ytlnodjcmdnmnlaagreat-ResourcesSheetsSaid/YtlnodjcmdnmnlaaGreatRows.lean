/-
  No cell of these rows narrows 'for every input' (looked for: loops, veiled, ifaces, maps, wideKeys, modest, calm, conditions, laid).
  DERIVED. THE GIVEN ROWS OF THIS SEAT. 2 by the template 'for every input the law returns true; each argument reads behind the call as it read before'; 0 by the template 'total and deterministic' (their statements: YtlnodjcmdnmnlaaGreatTotals.lean).
  GIVEN WITH THE SEED: the statements are not yours to turn. If you find one false, say at which input.
  Laid BY PROGRAM, IN A SANDBOX (cutbox-rows.mjs): the forced cells as the released guide's own fill.sh prints them over the translation 94a021fd82a42145… (all of the seat's roots in one cut). By AI agents, Wed Nov 11 2026. No macro, syntax, notation, axiom, sorry.
-/
import Derived.Test.YtlnodjcmdnmnlaaGreatChecked
import GoSem.Claim
import GoSem.ClaimJoined
import GoSem.ClaimMapViews
import Derived.JoinedTies
import Derived.KernelRfl
namespace Go.Proofs.YtlnodjcmdnmnlaaGreat
/- THE CELL 'sum', in the pinned program and in every row, IS THE sha256 OF THE DUMP (.gsa) THAT YtlnodjcmdnmnlaaGreatProg.lean LOADS. Nothing in Lean hashes anything: it is a label: what it is worth is what the hold of that sum in a sandbox is worth. -/
noncomputable def Tryz.pinned : Pinned := { name := "ytlnodjcmdnmnlaagreat", sum := "94a021fd82a421452258860eb475f13e485b8a942cdb4dfe3f6572a95efac4c5", checked := Tryz.checked }
namespace Rows
def none {H : Type} : Left H := { results := [], args := [] }

/-- 'loftblocklaw42.ResourcesSheets': WHATEVER THE INPUT: true; the input reads as it did. -/
def resourcesSheetsSpec : ChangeSpec := { name := "resourcesSheets", fn := fun _ => fun
  | [d1, d2, d3] => { results := [.lit (.bool true)], args := [d1, d2, d3] }
  | _ => none }
def resourcesSheetsRow : OpenClaim := { program := "ytlnodjcmdnmnlaagreat", sum := "94a021fd82a421452258860eb475f13e485b8a942cdb4dfe3f6572a95efac4c5", func := "loftblock/loftblocklaw42.ResourcesSheets", spec := "resourcesSheets", inPlace := ["math/bits.Add64", "math/bits.Sub64"], unfollowed := true, recurses := true, named := ["math/bits.divideError", "math/bits.overflowError"], plainKeys := false, apart := false }
def ResourcesSheetsSaid : Prop := resourcesSheetsRow.holds Tryz.pinned (OpenSpec.ofChange resourcesSheetsSpec)

/-- ITS FALSE NEIGHBOUR: 'it returns false'. Refute it at one input. -/
def resourcesSheetsWrong : ChangeSpec := { name := "resourcesSheets", fn := fun _ => fun
  | [d1, d2, d3] => { results := [.lit (.bool false)], args := [d1, d2, d3] }
  | _ => none }
def ResourcesSheetsWrongFalsely : Prop := resourcesSheetsRow.holds Tryz.pinned (OpenSpec.ofChange resourcesSheetsWrong)

/-- 'loftblocklaw42.ResourcesRuns': WHATEVER THE INPUT: true; the input reads as it did. -/
def resourcesRunsSpec : ChangeSpec := { name := "resourcesRuns", fn := fun _ => fun
  | [d1, d2, d3, d4] => { results := [.lit (.bool true)], args := [d1, d2, d3, d4] }
  | _ => none }
def resourcesRunsRow : OpenClaim := { program := "ytlnodjcmdnmnlaagreat", sum := "94a021fd82a421452258860eb475f13e485b8a942cdb4dfe3f6572a95efac4c5", func := "loftblock/loftblocklaw42.ResourcesRuns", spec := "resourcesRuns", inPlace := ["math/bits.Add64", "math/bits.Sub64"], unfollowed := true, recurses := true, named := ["math/bits.divideError", "math/bits.overflowError"], plainKeys := false, apart := false }
def ResourcesRunsSaid : Prop := resourcesRunsRow.holds Tryz.pinned (OpenSpec.ofChange resourcesRunsSpec)

/-- ITS FALSE NEIGHBOUR: 'it returns false'. Refute it at one input. -/
def resourcesRunsWrong : ChangeSpec := { name := "resourcesRuns", fn := fun _ => fun
  | [d1, d2, d3, d4] => { results := [.lit (.bool false)], args := [d1, d2, d3, d4] }
  | _ => none }
def ResourcesRunsWrongFalsely : Prop := resourcesRunsRow.holds Tryz.pinned (OpenSpec.ofChange resourcesRunsWrong)

/- THE SECOND FORM. 'bulk': how many values and letters a reading holds, each counted each time it is reached (what is shared counts as often as it is met; a slice's spare places count too). A statement '..UptoSaid' is the law's where the arguments, and the package variables that the reading takes, are together of bulk at most 1048576: NARROWER than '..Said'. Prove '..Said' where nothing that the law and all that it calls make is longer than what came in: it says more and counts as full. Else prove '..UptoSaid'. A law counts once. -/
mutual
def uptoBulk {H : Type} : DataW H → Nat
  | .lit (.string bytes) => bytes.length + 1
  | .lit _ => 1
  | .nil => 1
  | .ptr d => uptoBulk d + 1
  | .slice elems spare => uptoBulkAll elems + uptoBulkAll spare + 1
  | .agg parts => uptoBulkAll parts + 1
  | .iface _ d => uptoBulk d + 1
  | .map entries => uptoBulkEntries entries + 1
  | .held _ => 1
def uptoBulkAll {H : Type} : List (DataW H) → Nat
  | [] => 0
  | d :: r => uptoBulk d + uptoBulkAll r
def uptoBulkEntries {H : Type} : List (Lit × DataW H) → Nat
  | [] => 0
  | x :: r => uptoBulkEntry x + uptoBulkEntries r
def uptoBulkEntry {H : Type} : Lit × DataW H → Nat
  | (.string bytes, d) => bytes.length + uptoBulk d + 1
  | (_, d) => uptoBulk d + 1
 end
def uptoSmall : (H : Type) → List (DataW H) → Bool := fun _ ds => decide (uptoBulkAll ds ≤ 1048576)
def OpenSpec.upto (s : _root_.Go.ChangeSpec) : _root_.Go.OpenSpec := { _root_.Go.OpenSpec.ofChange s with cond := some uptoSmall }

/-- 'loftblocklaw42.ResourcesSheets', WHERE WHAT IT READS IS OF BULK AT MOST 1048576: true; the input reads as it did. -/
def resourcesSheetsUptoRow : OpenClaim := { program := "ytlnodjcmdnmnlaagreat", sum := "94a021fd82a421452258860eb475f13e485b8a942cdb4dfe3f6572a95efac4c5", func := "loftblock/loftblocklaw42.ResourcesSheets", spec := "resourcesSheets", inPlace := ["math/bits.Add64", "math/bits.Sub64"], unfollowed := true, recurses := true, named := ["math/bits.divideError", "math/bits.overflowError"], plainKeys := false, apart := false, narrowed := true }
def ResourcesSheetsUptoSaid : Prop := resourcesSheetsUptoRow.holds Tryz.pinned (OpenSpec.upto resourcesSheetsSpec)

/-- 'loftblocklaw42.ResourcesRuns', WHERE WHAT IT READS IS OF BULK AT MOST 1048576: true; the input reads as it did. -/
def resourcesRunsUptoRow : OpenClaim := { program := "ytlnodjcmdnmnlaagreat", sum := "94a021fd82a421452258860eb475f13e485b8a942cdb4dfe3f6572a95efac4c5", func := "loftblock/loftblocklaw42.ResourcesRuns", spec := "resourcesRuns", inPlace := ["math/bits.Add64", "math/bits.Sub64"], unfollowed := true, recurses := true, named := ["math/bits.divideError", "math/bits.overflowError"], plainKeys := false, apart := false, narrowed := true }
def ResourcesRunsUptoSaid : Prop := resourcesRunsUptoRow.holds Tryz.pinned (OpenSpec.upto resourcesRunsSpec)

end Rows
end Go.Proofs.YtlnodjcmdnmnlaaGreat
