/-
  No cell of these rows narrows 'for every input' (looked for: loops, veiled, ifaces, maps, wideKeys, modest, calm, conditions, laid).
  DERIVED. THE GIVEN ROWS OF THIS SEAT. 7 by the template 'for every input the law returns true; each argument reads behind the call as it read before'; 0 by the template 'total and deterministic' (their statements: YtebofaenlhhkaaaGreatTotals.lean).
  GIVEN WITH THE SEED: the statements are not yours to turn. If you find one false, say at which input.
  Laid BY PROGRAM, IN A SANDBOX (cutbox-rows.mjs): the forced cells as the released guide's own fill.sh prints them over the translation 999d94d54c41a8dc… (all of the seat's roots in one cut). By AI agents, Wed Nov 11 2026. No macro, syntax, notation, axiom, sorry.
-/
import Derived.Test.YtebofaenlhhkaaaGreatChecked
import GoSem.Claim
import GoSem.ClaimJoined
import GoSem.ClaimMapViews
import Derived.JoinedTies
import Derived.KernelRfl
namespace Go.Proofs.YtebofaenlhhkaaaGreat
/- THE CELL 'sum', in the pinned program and in every row, IS THE sha256 OF THE DUMP (.gsa) THAT YtebofaenlhhkaaaGreatProg.lean LOADS. Nothing in Lean hashes anything: it is a label: what it is worth is what the hold of that sum in a sandbox is worth. -/
noncomputable def Tryz.pinned : Pinned := { name := "ytebofaenlhhkaaagreat", sum := "999d94d54c41a8dc210bd4da23afca7603dd5ccc2e46570310fabc320ea63357", checked := Tryz.checked }
namespace Rows
def none {H : Type} : Left H := { results := [], args := [] }

/-- 'loftblocklaw38.TimelinePaths': WHATEVER THE INPUT: true; the input reads as it did. -/
def timelinePathsSpec : ChangeSpec := { name := "timelinePaths", fn := fun _ => fun
  | [d1, d2, d3, d4] => { results := [.lit (.bool true)], args := [d1, d2, d3, d4] }
  | _ => none }
def timelinePathsRow : OpenClaim := { program := "ytebofaenlhhkaaagreat", sum := "999d94d54c41a8dc210bd4da23afca7603dd5ccc2e46570310fabc320ea63357", func := "loftblock/loftblocklaw38.TimelinePaths", spec := "timelinePaths", inPlace := ["math/bits.Add64", "math/bits.Sub64"], unfollowed := true, recurses := true, named := ["math/bits.divideError", "math/bits.overflowError"], plainKeys := false, apart := false }
def TimelinePathsSaid : Prop := timelinePathsRow.holds Tryz.pinned (OpenSpec.ofChange timelinePathsSpec)

/-- ITS FALSE NEIGHBOUR: 'it returns false'. Refute it at one input. -/
def timelinePathsWrong : ChangeSpec := { name := "timelinePaths", fn := fun _ => fun
  | [d1, d2, d3, d4] => { results := [.lit (.bool false)], args := [d1, d2, d3, d4] }
  | _ => none }
def TimelinePathsWrongFalsely : Prop := timelinePathsRow.holds Tryz.pinned (OpenSpec.ofChange timelinePathsWrong)

/-- 'loftblocklaw38.TimelineTrims': WHATEVER THE INPUT: true; the input reads as it did. -/
def timelineTrimsSpec : ChangeSpec := { name := "timelineTrims", fn := fun _ => fun
  | [d1, d2, d3, d4] => { results := [.lit (.bool true)], args := [d1, d2, d3, d4] }
  | _ => none }
def timelineTrimsRow : OpenClaim := { program := "ytebofaenlhhkaaagreat", sum := "999d94d54c41a8dc210bd4da23afca7603dd5ccc2e46570310fabc320ea63357", func := "loftblock/loftblocklaw38.TimelineTrims", spec := "timelineTrims", inPlace := ["math/bits.Add64", "math/bits.Sub64"], unfollowed := true, recurses := true, named := ["math/bits.divideError", "math/bits.overflowError"], plainKeys := false, apart := false }
def TimelineTrimsSaid : Prop := timelineTrimsRow.holds Tryz.pinned (OpenSpec.ofChange timelineTrimsSpec)

/-- ITS FALSE NEIGHBOUR: 'it returns false'. Refute it at one input. -/
def timelineTrimsWrong : ChangeSpec := { name := "timelineTrims", fn := fun _ => fun
  | [d1, d2, d3, d4] => { results := [.lit (.bool false)], args := [d1, d2, d3, d4] }
  | _ => none }
def TimelineTrimsWrongFalsely : Prop := timelineTrimsRow.holds Tryz.pinned (OpenSpec.ofChange timelineTrimsWrong)

/-- 'loftblocklaw38.TimelineReaches': WHATEVER THE INPUT: true; the input reads as it did. -/
def timelineReachesSpec : ChangeSpec := { name := "timelineReaches", fn := fun _ => fun
  | [d1, d2, d3] => { results := [.lit (.bool true)], args := [d1, d2, d3] }
  | _ => none }
def timelineReachesRow : OpenClaim := { program := "ytebofaenlhhkaaagreat", sum := "999d94d54c41a8dc210bd4da23afca7603dd5ccc2e46570310fabc320ea63357", func := "loftblock/loftblocklaw38.TimelineReaches", spec := "timelineReaches", inPlace := ["math/bits.Add64", "math/bits.Sub64"], unfollowed := true, recurses := true, named := ["math/bits.divideError", "math/bits.overflowError"], plainKeys := false, apart := false }
def TimelineReachesSaid : Prop := timelineReachesRow.holds Tryz.pinned (OpenSpec.ofChange timelineReachesSpec)

/-- ITS FALSE NEIGHBOUR: 'it returns false'. Refute it at one input. -/
def timelineReachesWrong : ChangeSpec := { name := "timelineReaches", fn := fun _ => fun
  | [d1, d2, d3] => { results := [.lit (.bool false)], args := [d1, d2, d3] }
  | _ => none }
def TimelineReachesWrongFalsely : Prop := timelineReachesRow.holds Tryz.pinned (OpenSpec.ofChange timelineReachesWrong)

/-- 'loftblocklaw38.TimelineLater': WHATEVER THE INPUT: true; the input reads as it did. -/
def timelineLaterSpec : ChangeSpec := { name := "timelineLater", fn := fun _ => fun
  | [d1, d2, d3, d4, d5] => { results := [.lit (.bool true)], args := [d1, d2, d3, d4, d5] }
  | _ => none }
def timelineLaterRow : OpenClaim := { program := "ytebofaenlhhkaaagreat", sum := "999d94d54c41a8dc210bd4da23afca7603dd5ccc2e46570310fabc320ea63357", func := "loftblock/loftblocklaw38.TimelineLater", spec := "timelineLater", inPlace := ["math/bits.Add64", "math/bits.Sub64"], unfollowed := true, recurses := true, named := ["math/bits.divideError", "math/bits.overflowError"], plainKeys := false, apart := false }
def TimelineLaterSaid : Prop := timelineLaterRow.holds Tryz.pinned (OpenSpec.ofChange timelineLaterSpec)

/-- ITS FALSE NEIGHBOUR: 'it returns false'. Refute it at one input. -/
def timelineLaterWrong : ChangeSpec := { name := "timelineLater", fn := fun _ => fun
  | [d1, d2, d3, d4, d5] => { results := [.lit (.bool false)], args := [d1, d2, d3, d4, d5] }
  | _ => none }
def TimelineLaterWrongFalsely : Prop := timelineLaterRow.holds Tryz.pinned (OpenSpec.ofChange timelineLaterWrong)

/-- 'loftblocklaw38.TimelineTimes': WHATEVER THE INPUT: true; the input reads as it did. -/
def timelineTimesSpec : ChangeSpec := { name := "timelineTimes", fn := fun _ => fun
  | [d1, d2, d3, d4] => { results := [.lit (.bool true)], args := [d1, d2, d3, d4] }
  | _ => none }
def timelineTimesRow : OpenClaim := { program := "ytebofaenlhhkaaagreat", sum := "999d94d54c41a8dc210bd4da23afca7603dd5ccc2e46570310fabc320ea63357", func := "loftblock/loftblocklaw38.TimelineTimes", spec := "timelineTimes", inPlace := ["math/bits.Add64", "math/bits.Sub64"], unfollowed := true, recurses := true, named := ["math/bits.divideError", "math/bits.overflowError"], plainKeys := false, apart := false }
def TimelineTimesSaid : Prop := timelineTimesRow.holds Tryz.pinned (OpenSpec.ofChange timelineTimesSpec)

/-- ITS FALSE NEIGHBOUR: 'it returns false'. Refute it at one input. -/
def timelineTimesWrong : ChangeSpec := { name := "timelineTimes", fn := fun _ => fun
  | [d1, d2, d3, d4] => { results := [.lit (.bool false)], args := [d1, d2, d3, d4] }
  | _ => none }
def TimelineTimesWrongFalsely : Prop := timelineTimesRow.holds Tryz.pinned (OpenSpec.ofChange timelineTimesWrong)

/-- 'loftblocklaw38.TimelineFollows': WHATEVER THE INPUT: true; the input reads as it did. -/
def timelineFollowsSpec : ChangeSpec := { name := "timelineFollows", fn := fun _ => fun
  | [d1, d2, d3, d4] => { results := [.lit (.bool true)], args := [d1, d2, d3, d4] }
  | _ => none }
def timelineFollowsRow : OpenClaim := { program := "ytebofaenlhhkaaagreat", sum := "999d94d54c41a8dc210bd4da23afca7603dd5ccc2e46570310fabc320ea63357", func := "loftblock/loftblocklaw38.TimelineFollows", spec := "timelineFollows", inPlace := ["math/bits.Add64", "math/bits.Sub64"], unfollowed := true, recurses := true, named := ["math/bits.divideError", "math/bits.overflowError"], plainKeys := false, apart := false }
def TimelineFollowsSaid : Prop := timelineFollowsRow.holds Tryz.pinned (OpenSpec.ofChange timelineFollowsSpec)

/-- ITS FALSE NEIGHBOUR: 'it returns false'. Refute it at one input. -/
def timelineFollowsWrong : ChangeSpec := { name := "timelineFollows", fn := fun _ => fun
  | [d1, d2, d3, d4] => { results := [.lit (.bool false)], args := [d1, d2, d3, d4] }
  | _ => none }
def TimelineFollowsWrongFalsely : Prop := timelineFollowsRow.holds Tryz.pinned (OpenSpec.ofChange timelineFollowsWrong)

/-- 'loftblocklaw38.TimelineSmooth': WHATEVER THE INPUT: true; the input reads as it did. -/
def timelineSmoothSpec : ChangeSpec := { name := "timelineSmooth", fn := fun _ => fun
  | [d1, d2, d3, d4, d5] => { results := [.lit (.bool true)], args := [d1, d2, d3, d4, d5] }
  | _ => none }
def timelineSmoothRow : OpenClaim := { program := "ytebofaenlhhkaaagreat", sum := "999d94d54c41a8dc210bd4da23afca7603dd5ccc2e46570310fabc320ea63357", func := "loftblock/loftblocklaw38.TimelineSmooth", spec := "timelineSmooth", inPlace := ["math/bits.Add64", "math/bits.Sub64"], unfollowed := true, recurses := true, named := ["math/bits.divideError", "math/bits.overflowError"], plainKeys := false, apart := false }
def TimelineSmoothSaid : Prop := timelineSmoothRow.holds Tryz.pinned (OpenSpec.ofChange timelineSmoothSpec)

/-- ITS FALSE NEIGHBOUR: 'it returns false'. Refute it at one input. -/
def timelineSmoothWrong : ChangeSpec := { name := "timelineSmooth", fn := fun _ => fun
  | [d1, d2, d3, d4, d5] => { results := [.lit (.bool false)], args := [d1, d2, d3, d4, d5] }
  | _ => none }
def TimelineSmoothWrongFalsely : Prop := timelineSmoothRow.holds Tryz.pinned (OpenSpec.ofChange timelineSmoothWrong)

/- THE SECOND FORM. 'bulk': how many values and letters a reading holds, each counted each time it is reached (what is shared counts as often as it is met; a slice's spare places count too). A statement '..UptoSaid' is the law's where the arguments, and the package variables that the reading takes, are together of bulk at most 1048576: NARROWER than '..Said'. Prove '..Said' where nothing that the law and all that it calls make is longer than what came in: it says more and counts as full. Else prove '..UptoSaid'. A law counts once. -/
mutual
def uptoBulk {H : Type} : DataW H → Nat
  | .lit (.string bytes) => bytes.length + 1
  | .lit _ => 1
  | .nil => 1
  | .ptr d => uptoBulk d + 1
  | .slice elems spare => uptoBulkAll elems + uptoBulkAll spare + 1
  | .agg parts => uptoBulkAll parts + 1
  | .iface _ d => uptoBulk d + 1
  | .map entries => uptoBulkEntries entries + 1
  | .held _ => 1
def uptoBulkAll {H : Type} : List (DataW H) → Nat
  | [] => 0
  | d :: r => uptoBulk d + uptoBulkAll r
def uptoBulkEntries {H : Type} : List (Lit × DataW H) → Nat
  | [] => 0
  | x :: r => uptoBulkEntry x + uptoBulkEntries r
def uptoBulkEntry {H : Type} : Lit × DataW H → Nat
  | (.string bytes, d) => bytes.length + uptoBulk d + 1
  | (_, d) => uptoBulk d + 1
 end
def uptoSmall : (H : Type) → List (DataW H) → Bool := fun _ ds => decide (uptoBulkAll ds ≤ 1048576)
def OpenSpec.upto (s : _root_.Go.ChangeSpec) : _root_.Go.OpenSpec := { _root_.Go.OpenSpec.ofChange s with cond := some uptoSmall }

/-- 'loftblocklaw38.TimelinePaths', WHERE WHAT IT READS IS OF BULK AT MOST 1048576: true; the input reads as it did. -/
def timelinePathsUptoRow : OpenClaim := { program := "ytebofaenlhhkaaagreat", sum := "999d94d54c41a8dc210bd4da23afca7603dd5ccc2e46570310fabc320ea63357", func := "loftblock/loftblocklaw38.TimelinePaths", spec := "timelinePaths", inPlace := ["math/bits.Add64", "math/bits.Sub64"], unfollowed := true, recurses := true, named := ["math/bits.divideError", "math/bits.overflowError"], plainKeys := false, apart := false, narrowed := true }
def TimelinePathsUptoSaid : Prop := timelinePathsUptoRow.holds Tryz.pinned (OpenSpec.upto timelinePathsSpec)

/-- 'loftblocklaw38.TimelineTrims', WHERE WHAT IT READS IS OF BULK AT MOST 1048576: true; the input reads as it did. -/
def timelineTrimsUptoRow : OpenClaim := { program := "ytebofaenlhhkaaagreat", sum := "999d94d54c41a8dc210bd4da23afca7603dd5ccc2e46570310fabc320ea63357", func := "loftblock/loftblocklaw38.TimelineTrims", spec := "timelineTrims", inPlace := ["math/bits.Add64", "math/bits.Sub64"], unfollowed := true, recurses := true, named := ["math/bits.divideError", "math/bits.overflowError"], plainKeys := false, apart := false, narrowed := true }
def TimelineTrimsUptoSaid : Prop := timelineTrimsUptoRow.holds Tryz.pinned (OpenSpec.upto timelineTrimsSpec)

/-- 'loftblocklaw38.TimelineReaches', WHERE WHAT IT READS IS OF BULK AT MOST 1048576: true; the input reads as it did. -/
def timelineReachesUptoRow : OpenClaim := { program := "ytebofaenlhhkaaagreat", sum := "999d94d54c41a8dc210bd4da23afca7603dd5ccc2e46570310fabc320ea63357", func := "loftblock/loftblocklaw38.TimelineReaches", spec := "timelineReaches", inPlace := ["math/bits.Add64", "math/bits.Sub64"], unfollowed := true, recurses := true, named := ["math/bits.divideError", "math/bits.overflowError"], plainKeys := false, apart := false, narrowed := true }
def TimelineReachesUptoSaid : Prop := timelineReachesUptoRow.holds Tryz.pinned (OpenSpec.upto timelineReachesSpec)

/-- 'loftblocklaw38.TimelineLater', WHERE WHAT IT READS IS OF BULK AT MOST 1048576: true; the input reads as it did. -/
def timelineLaterUptoRow : OpenClaim := { program := "ytebofaenlhhkaaagreat", sum := "999d94d54c41a8dc210bd4da23afca7603dd5ccc2e46570310fabc320ea63357", func := "loftblock/loftblocklaw38.TimelineLater", spec := "timelineLater", inPlace := ["math/bits.Add64", "math/bits.Sub64"], unfollowed := true, recurses := true, named := ["math/bits.divideError", "math/bits.overflowError"], plainKeys := false, apart := false, narrowed := true }
def TimelineLaterUptoSaid : Prop := timelineLaterUptoRow.holds Tryz.pinned (OpenSpec.upto timelineLaterSpec)

/-- 'loftblocklaw38.TimelineTimes', WHERE WHAT IT READS IS OF BULK AT MOST 1048576: true; the input reads as it did. -/
def timelineTimesUptoRow : OpenClaim := { program := "ytebofaenlhhkaaagreat", sum := "999d94d54c41a8dc210bd4da23afca7603dd5ccc2e46570310fabc320ea63357", func := "loftblock/loftblocklaw38.TimelineTimes", spec := "timelineTimes", inPlace := ["math/bits.Add64", "math/bits.Sub64"], unfollowed := true, recurses := true, named := ["math/bits.divideError", "math/bits.overflowError"], plainKeys := false, apart := false, narrowed := true }
def TimelineTimesUptoSaid : Prop := timelineTimesUptoRow.holds Tryz.pinned (OpenSpec.upto timelineTimesSpec)

/-- 'loftblocklaw38.TimelineFollows', WHERE WHAT IT READS IS OF BULK AT MOST 1048576: true; the input reads as it did. -/
def timelineFollowsUptoRow : OpenClaim := { program := "ytebofaenlhhkaaagreat", sum := "999d94d54c41a8dc210bd4da23afca7603dd5ccc2e46570310fabc320ea63357", func := "loftblock/loftblocklaw38.TimelineFollows", spec := "timelineFollows", inPlace := ["math/bits.Add64", "math/bits.Sub64"], unfollowed := true, recurses := true, named := ["math/bits.divideError", "math/bits.overflowError"], plainKeys := false, apart := false, narrowed := true }
def TimelineFollowsUptoSaid : Prop := timelineFollowsUptoRow.holds Tryz.pinned (OpenSpec.upto timelineFollowsSpec)

/-- 'loftblocklaw38.TimelineSmooth', WHERE WHAT IT READS IS OF BULK AT MOST 1048576: true; the input reads as it did. -/
def timelineSmoothUptoRow : OpenClaim := { program := "ytebofaenlhhkaaagreat", sum := "999d94d54c41a8dc210bd4da23afca7603dd5ccc2e46570310fabc320ea63357", func := "loftblock/loftblocklaw38.TimelineSmooth", spec := "timelineSmooth", inPlace := ["math/bits.Add64", "math/bits.Sub64"], unfollowed := true, recurses := true, named := ["math/bits.divideError", "math/bits.overflowError"], plainKeys := false, apart := false, narrowed := true }
def TimelineSmoothUptoSaid : Prop := timelineSmoothUptoRow.holds Tryz.pinned (OpenSpec.upto timelineSmoothSpec)

end Rows
end Go.Proofs.YtebofaenlhhkaaaGreat
