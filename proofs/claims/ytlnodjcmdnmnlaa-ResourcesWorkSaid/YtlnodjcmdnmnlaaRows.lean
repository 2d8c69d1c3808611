/-
  No cell of these rows narrows 'for every input' (looked for: loops, veiled, ifaces, maps, wideKeys, modest, calm, conditions, laid).
  DERIVED. THE GIVEN ROWS OF THIS SEAT. 5 by the template 'for every input the law returns true; each argument reads behind the call as it read before'; 0 by the template 'total and deterministic' (their statements: YtlnodjcmdnmnlaaTotals.lean).
  GIVEN WITH THE SEED: the statements are not yours to turn. If you find one false, say at which input.
  Laid BY PROGRAM, IN A SANDBOX (cutbox-rows.mjs): the forced cells as the released guide's own fill.sh prints them over the translation 3abc11285eb5c740… (all of the seat's roots in one cut). By AI agents, Wed Nov 11 2026. No macro, syntax, notation, axiom, sorry.
-/
import Derived.Test.YtlnodjcmdnmnlaaChecked
import GoSem.Claim
import GoSem.ClaimJoined
import GoSem.ClaimMapViews
import Derived.JoinedTies
import Derived.KernelRfl
namespace Go.Proofs.Ytlnodjcmdnmnlaa
/- THE CELL 'sum', in the pinned program and in every row, IS THE sha256 OF THE DUMP (.gsa) THAT YtlnodjcmdnmnlaaProg.lean LOADS. Nothing in Lean hashes anything: it is a label: what it is worth is what the hold of that sum in a sandbox is worth. -/
noncomputable def Try.pinned : Pinned := { name := "ytlnodjcmdnmnlaa", sum := "3abc11285eb5c740b3ca86b85de56eccac872bfbcd2532237dd119732c5c1825", checked := Try.checked }
namespace Rows
def none {H : Type} : Left H := { results := [], args := [] }

/-- 'loftblocklaw42.ResourcesTasks': WHATEVER THE INPUT: true; the input reads as it did. -/
def resourcesTasksSpec : ChangeSpec := { name := "resourcesTasks", fn := fun _ => fun
  | [d1, d2] => { results := [.lit (.bool true)], args := [d1, d2] }
  | _ => none }
def resourcesTasksRow : OpenClaim := { program := "ytlnodjcmdnmnlaa", sum := "3abc11285eb5c740b3ca86b85de56eccac872bfbcd2532237dd119732c5c1825", func := "loftblock/loftblocklaw42.ResourcesTasks", spec := "resourcesTasks", unfollowed := true, recurses := true, apart := false }
def ResourcesTasksSaid : Prop := resourcesTasksRow.holds Try.pinned (OpenSpec.ofChange resourcesTasksSpec)

/-- ITS FALSE NEIGHBOUR: 'it returns false'. Refute it at one input. -/
def resourcesTasksWrong : ChangeSpec := { name := "resourcesTasks", fn := fun _ => fun
  | [d1, d2] => { results := [.lit (.bool false)], args := [d1, d2] }
  | _ => none }
def ResourcesTasksWrongFalsely : Prop := resourcesTasksRow.holds Try.pinned (OpenSpec.ofChange resourcesTasksWrong)

/-- 'loftblocklaw42.ResourcesWork': WHATEVER THE INPUT: true; the input reads as it did. -/
def resourcesWorkSpec : ChangeSpec := { name := "resourcesWork", fn := fun _ => fun
  | [d1, d2, d3] => { results := [.lit (.bool true)], args := [d1, d2, d3] }
  | _ => none }
def resourcesWorkRow : OpenClaim := { program := "ytlnodjcmdnmnlaa", sum := "3abc11285eb5c740b3ca86b85de56eccac872bfbcd2532237dd119732c5c1825", func := "loftblock/loftblocklaw42.ResourcesWork", spec := "resourcesWork", unfollowed := true, recurses := true, apart := false }
def ResourcesWorkSaid : Prop := resourcesWorkRow.holds Try.pinned (OpenSpec.ofChange resourcesWorkSpec)

/-- ITS FALSE NEIGHBOUR: 'it returns false'. Refute it at one input. -/
def resourcesWorkWrong : ChangeSpec := { name := "resourcesWork", fn := fun _ => fun
  | [d1, d2, d3] => { results := [.lit (.bool false)], args := [d1, d2, d3] }
  | _ => none }
def ResourcesWorkWrongFalsely : Prop := resourcesWorkRow.holds Try.pinned (OpenSpec.ofChange resourcesWorkWrong)

/-- 'loftblocklaw42.ResourcesLater': WHATEVER THE INPUT: true; the input reads as it did. -/
def resourcesLaterSpec : ChangeSpec := { name := "resourcesLater", fn := fun _ => fun
  | [d1, d2, d3, d4] => { results := [.lit (.bool true)], args := [d1, d2, d3, d4] }
  | _ => none }
def resourcesLaterRow : OpenClaim := { program := "ytlnodjcmdnmnlaa", sum := "3abc11285eb5c740b3ca86b85de56eccac872bfbcd2532237dd119732c5c1825", func := "loftblock/loftblocklaw42.ResourcesLater", spec := "resourcesLater", unfollowed := true, recurses := true, apart := false }
def ResourcesLaterSaid : Prop := resourcesLaterRow.holds Try.pinned (OpenSpec.ofChange resourcesLaterSpec)

/-- ITS FALSE NEIGHBOUR: 'it returns false'. Refute it at one input. -/
def resourcesLaterWrong : ChangeSpec := { name := "resourcesLater", fn := fun _ => fun
  | [d1, d2, d3, d4] => { results := [.lit (.bool false)], args := [d1, d2, d3, d4] }
  | _ => none }
def ResourcesLaterWrongFalsely : Prop := resourcesLaterRow.holds Try.pinned (OpenSpec.ofChange resourcesLaterWrong)

/-- 'loftblocklaw42.ResourcesPeaks': WHATEVER THE INPUT: true; the input reads as it did. -/
def resourcesPeaksSpec : ChangeSpec := { name := "resourcesPeaks", fn := fun _ => fun
  | [d1, d2] => { results := [.lit (.bool true)], args := [d1, d2] }
  | _ => none }
def resourcesPeaksRow : OpenClaim := { program := "ytlnodjcmdnmnlaa", sum := "3abc11285eb5c740b3ca86b85de56eccac872bfbcd2532237dd119732c5c1825", func := "loftblock/loftblocklaw42.ResourcesPeaks", spec := "resourcesPeaks", unfollowed := true, recurses := true, apart := false }
def ResourcesPeaksSaid : Prop := resourcesPeaksRow.holds Try.pinned (OpenSpec.ofChange resourcesPeaksSpec)

/-- ITS FALSE NEIGHBOUR: 'it returns false'. Refute it at one input. -/
def resourcesPeaksWrong : ChangeSpec := { name := "resourcesPeaks", fn := fun _ => fun
  | [d1, d2] => { results := [.lit (.bool false)], args := [d1, d2] }
  | _ => none }
def ResourcesPeaksWrongFalsely : Prop := resourcesPeaksRow.holds Try.pinned (OpenSpec.ofChange resourcesPeaksWrong)

/-- 'loftblocklaw42.ResourcesWithin': WHATEVER THE INPUT: true; the input reads as it did. -/
def resourcesWithinSpec : ChangeSpec := { name := "resourcesWithin", fn := fun _ => fun
  | [d1, d2] => { results := [.lit (.bool true)], args := [d1, d2] }
  | _ => none }
def resourcesWithinRow : OpenClaim := { program := "ytlnodjcmdnmnlaa", sum := "3abc11285eb5c740b3ca86b85de56eccac872bfbcd2532237dd119732c5c1825", func := "loftblock/loftblocklaw42.ResourcesWithin", spec := "resourcesWithin", unfollowed := true, recurses := true, apart := false }
def ResourcesWithinSaid : Prop := resourcesWithinRow.holds Try.pinned (OpenSpec.ofChange resourcesWithinSpec)

/-- ITS FALSE NEIGHBOUR: 'it returns false'. Refute it at one input. -/
def resourcesWithinWrong : ChangeSpec := { name := "resourcesWithin", fn := fun _ => fun
  | [d1, d2] => { results := [.lit (.bool false)], args := [d1, d2] }
  | _ => none }
def ResourcesWithinWrongFalsely : Prop := resourcesWithinRow.holds Try.pinned (OpenSpec.ofChange resourcesWithinWrong)

/- THE SECOND FORM. 'bulk': how many values and letters a reading holds, each counted each time it is reached (what is shared counts as often as it is met; a slice's spare places count too). A statement '..UptoSaid' is the law's where the arguments, and the package variables that the reading takes, are together of bulk at most 1048576: NARROWER than '..Said'. Prove '..Said' where nothing that the law and all that it calls make is longer than what came in: it says more and counts as full. Else prove '..UptoSaid'. A law counts once. -/
mutual
def uptoBulk {H : Type} : DataW H → Nat
  | .lit (.string bytes) => bytes.length + 1
  | .lit _ => 1
  | .nil => 1
  | .ptr d => uptoBulk d + 1
  | .slice elems spare => uptoBulkAll elems + uptoBulkAll spare + 1
  | .agg parts => uptoBulkAll parts + 1
  | .iface _ d => uptoBulk d + 1
  | .map entries => uptoBulkEntries entries + 1
  | .held _ => 1
def uptoBulkAll {H : Type} : List (DataW H) → Nat
  | [] => 0
  | d :: r => uptoBulk d + uptoBulkAll r
def uptoBulkEntries {H : Type} : List (Lit × DataW H) → Nat
  | [] => 0
  | x :: r => uptoBulkEntry x + uptoBulkEntries r
def uptoBulkEntry {H : Type} : Lit × DataW H → Nat
  | (.string bytes, d) => bytes.length + uptoBulk d + 1
  | (_, d) => uptoBulk d + 1
 end
def uptoSmall : (H : Type) → List (DataW H) → Bool := fun _ ds => decide (uptoBulkAll ds ≤ 1048576)
def OpenSpec.upto (s : _root_.Go.ChangeSpec) : _root_.Go.OpenSpec := { _root_.Go.OpenSpec.ofChange s with cond := some uptoSmall }

/-- 'loftblocklaw42.ResourcesTasks', WHERE WHAT IT READS IS OF BULK AT MOST 1048576: true; the input reads as it did. -/
def resourcesTasksUptoRow : OpenClaim := { program := "ytlnodjcmdnmnlaa", sum := "3abc11285eb5c740b3ca86b85de56eccac872bfbcd2532237dd119732c5c1825", func := "loftblock/loftblocklaw42.ResourcesTasks", spec := "resourcesTasks", unfollowed := true, recurses := true, apart := false, narrowed := true }
def ResourcesTasksUptoSaid : Prop := resourcesTasksUptoRow.holds Try.pinned (OpenSpec.upto resourcesTasksSpec)

/-- 'loftblocklaw42.ResourcesWork', WHERE WHAT IT READS IS OF BULK AT MOST 1048576: true; the input reads as it did. -/
def resourcesWorkUptoRow : OpenClaim := { program := "ytlnodjcmdnmnlaa", sum := "3abc11285eb5c740b3ca86b85de56eccac872bfbcd2532237dd119732c5c1825", func := "loftblock/loftblocklaw42.ResourcesWork", spec := "resourcesWork", unfollowed := true, recurses := true, apart := false, narrowed := true }
def ResourcesWorkUptoSaid : Prop := resourcesWorkUptoRow.holds Try.pinned (OpenSpec.upto resourcesWorkSpec)

/-- 'loftblocklaw42.ResourcesLater', WHERE WHAT IT READS IS OF BULK AT MOST 1048576: true; the input reads as it did. -/
def resourcesLaterUptoRow : OpenClaim := { program := "ytlnodjcmdnmnlaa", sum := "3abc11285eb5c740b3ca86b85de56eccac872bfbcd2532237dd119732c5c1825", func := "loftblock/loftblocklaw42.ResourcesLater", spec := "resourcesLater", unfollowed := true, recurses := true, apart := false, narrowed := true }
def ResourcesLaterUptoSaid : Prop := resourcesLaterUptoRow.holds Try.pinned (OpenSpec.upto resourcesLaterSpec)

/-- 'loftblocklaw42.ResourcesPeaks', WHERE WHAT IT READS IS OF BULK AT MOST 1048576: true; the input reads as it did. -/
def resourcesPeaksUptoRow : OpenClaim := { program := "ytlnodjcmdnmnlaa", sum := "3abc11285eb5c740b3ca86b85de56eccac872bfbcd2532237dd119732c5c1825", func := "loftblock/loftblocklaw42.ResourcesPeaks", spec := "resourcesPeaks", unfollowed := true, recurses := true, apart := false, narrowed := true }
def ResourcesPeaksUptoSaid : Prop := resourcesPeaksUptoRow.holds Try.pinned (OpenSpec.upto resourcesPeaksSpec)

/-- 'loftblocklaw42.ResourcesWithin', WHERE WHAT IT READS IS OF BULK AT MOST 1048576: true; the input reads as it did. -/
def resourcesWithinUptoRow : OpenClaim := { program := "ytlnodjcmdnmnlaa", sum := "3abc11285eb5c740b3ca86b85de56eccac872bfbcd2532237dd119732c5c1825", func := "loftblock/loftblocklaw42.ResourcesWithin", spec := "resourcesWithin", unfollowed := true, recurses := true, apart := false, narrowed := true }
def ResourcesWithinUptoSaid : Prop := resourcesWithinUptoRow.holds Try.pinned (OpenSpec.upto resourcesWithinSpec)

end Rows
end Go.Proofs.Ytlnodjcmdnmnlaa
