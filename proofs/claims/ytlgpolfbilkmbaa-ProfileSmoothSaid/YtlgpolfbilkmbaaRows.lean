/-
  No cell of these rows narrows 'for every input' (looked for: loops, veiled, ifaces, maps, wideKeys, modest, calm, conditions, laid).
  DERIVED. THE GIVEN ROWS OF THIS SEAT. 7 by the template 'for every input the law returns true; each argument reads behind the call as it read before'; 0 by the template 'total and deterministic' (their statements: YtlgpolfbilkmbaaTotals.lean).
  GIVEN WITH THE SEED: the statements are not yours to turn. If you find one false, say at which input.
  Laid BY PROGRAM, IN A SANDBOX (cutbox-rows.mjs): the forced cells as the released guide's own fill.sh prints them over the translation e765d82439bd47bd… (all of the seat's roots in one cut). By AI agents, Wed Nov 11 2026. No macro, syntax, notation, axiom, sorry.
-/
import Derived.Test.YtlgpolfbilkmbaaChecked
import GoSem.Claim
import GoSem.ClaimJoined
import GoSem.ClaimMapViews
import Derived.JoinedTies
import Derived.KernelRfl
namespace Go.Proofs.Ytlgpolfbilkmbaa
/- THE CELL 'sum', in the pinned program and in every row, IS THE sha256 OF THE DUMP (.gsa) THAT YtlgpolfbilkmbaaProg.lean LOADS. Nothing in Lean hashes anything: it is a label: what it is worth is what the hold of that sum in a sandbox is worth. -/
noncomputable def Try.pinned : Pinned := { name := "ytlgpolfbilkmbaa", sum := "e765d82439bd47bd7bdf30e1a1f9ac8c18ee3f2241b9856ea51d9048559c0104", checked := Try.checked }
namespace Rows
def none {H : Type} : Left H := { results := [], args := [] }

/-- 'loftblocklaw34.ProfileTops': WHATEVER THE INPUT: true; the input reads as it did. -/
def profileTopsSpec : ChangeSpec := { name := "profileTops", fn := fun _ => fun
  | [d1, d2] => { results := [.lit (.bool true)], args := [d1, d2] }
  | _ => none }
def profileTopsRow : OpenClaim := { program := "ytlgpolfbilkmbaa", sum := "e765d82439bd47bd7bdf30e1a1f9ac8c18ee3f2241b9856ea51d9048559c0104", func := "loftblock/loftblocklaw34.ProfileTops", spec := "profileTops", inPlace := ["math/bits.Add64", "math/bits.Sub64"], unfollowed := true, recurses := true, named := ["math/bits.divideError", "math/bits.overflowError"], apart := false }
def ProfileTopsSaid : Prop := profileTopsRow.holds Try.pinned (OpenSpec.ofChange profileTopsSpec)

/-- ITS FALSE NEIGHBOUR: 'it returns false'. Refute it at one input. -/
def profileTopsWrong : ChangeSpec := { name := "profileTops", fn := fun _ => fun
  | [d1, d2] => { results := [.lit (.bool false)], args := [d1, d2] }
  | _ => none }
def ProfileTopsWrongFalsely : Prop := profileTopsRow.holds Try.pinned (OpenSpec.ofChange profileTopsWrong)

/-- 'loftblocklaw34.ProfileCurves': WHATEVER THE INPUT: true; the input reads as it did. -/
def profileCurvesSpec : ChangeSpec := { name := "profileCurves", fn := fun _ => fun
  | [d1, d2] => { results := [.lit (.bool true)], args := [d1, d2] }
  | _ => none }
def profileCurvesRow : OpenClaim := { program := "ytlgpolfbilkmbaa", sum := "e765d82439bd47bd7bdf30e1a1f9ac8c18ee3f2241b9856ea51d9048559c0104", func := "loftblock/loftblocklaw34.ProfileCurves", spec := "profileCurves", inPlace := ["math/bits.Add64", "math/bits.Sub64"], unfollowed := true, recurses := true, named := ["math/bits.divideError", "math/bits.overflowError"], apart := false }
def ProfileCurvesSaid : Prop := profileCurvesRow.holds Try.pinned (OpenSpec.ofChange profileCurvesSpec)

/-- ITS FALSE NEIGHBOUR: 'it returns false'. Refute it at one input. -/
def profileCurvesWrong : ChangeSpec := { name := "profileCurves", fn := fun _ => fun
  | [d1, d2] => { results := [.lit (.bool false)], args := [d1, d2] }
  | _ => none }
def ProfileCurvesWrongFalsely : Prop := profileCurvesRow.holds Try.pinned (OpenSpec.ofChange profileCurvesWrong)

/-- 'loftblocklaw34.ProfileFaster': WHATEVER THE INPUT: true; the input reads as it did. -/
def profileFasterSpec : ChangeSpec := { name := "profileFaster", fn := fun _ => fun
  | [d1, d2, d3, d4] => { results := [.lit (.bool true)], args := [d1, d2, d3, d4] }
  | _ => none }
def profileFasterRow : OpenClaim := { program := "ytlgpolfbilkmbaa", sum := "e765d82439bd47bd7bdf30e1a1f9ac8c18ee3f2241b9856ea51d9048559c0104", func := "loftblock/loftblocklaw34.ProfileFaster", spec := "profileFaster", inPlace := ["math/bits.Add64", "math/bits.Sub64"], unfollowed := true, recurses := true, named := ["math/bits.divideError", "math/bits.overflowError"], apart := false }
def ProfileFasterSaid : Prop := profileFasterRow.holds Try.pinned (OpenSpec.ofChange profileFasterSpec)

/-- ITS FALSE NEIGHBOUR: 'it returns false'. Refute it at one input. -/
def profileFasterWrong : ChangeSpec := { name := "profileFaster", fn := fun _ => fun
  | [d1, d2, d3, d4] => { results := [.lit (.bool false)], args := [d1, d2, d3, d4] }
  | _ => none }
def ProfileFasterWrongFalsely : Prop := profileFasterRow.holds Try.pinned (OpenSpec.ofChange profileFasterWrong)

/-- 'loftblocklaw34.ProfileGreatest': WHATEVER THE INPUT: true; the input reads as it did. -/
def profileGreatestSpec : ChangeSpec := { name := "profileGreatest", fn := fun _ => fun
  | [d1, d2] => { results := [.lit (.bool true)], args := [d1, d2] }
  | _ => none }
def profileGreatestRow : OpenClaim := { program := "ytlgpolfbilkmbaa", sum := "e765d82439bd47bd7bdf30e1a1f9ac8c18ee3f2241b9856ea51d9048559c0104", func := "loftblock/loftblocklaw34.ProfileGreatest", spec := "profileGreatest", inPlace := ["math/bits.Add64", "math/bits.Sub64"], unfollowed := true, recurses := true, named := ["math/bits.divideError", "math/bits.overflowError"], apart := false }
def ProfileGreatestSaid : Prop := profileGreatestRow.holds Try.pinned (OpenSpec.ofChange profileGreatestSpec)

/-- ITS FALSE NEIGHBOUR: 'it returns false'. Refute it at one input. -/
def profileGreatestWrong : ChangeSpec := { name := "profileGreatest", fn := fun _ => fun
  | [d1, d2] => { results := [.lit (.bool false)], args := [d1, d2] }
  | _ => none }
def ProfileGreatestWrongFalsely : Prop := profileGreatestRow.holds Try.pinned (OpenSpec.ofChange profileGreatestWrong)

/-- 'loftblocklaw34.ProfileTimes': WHATEVER THE INPUT: true; the input reads as it did. -/
def profileTimesSpec : ChangeSpec := { name := "profileTimes", fn := fun _ => fun
  | [d1, d2] => { results := [.lit (.bool true)], args := [d1, d2] }
  | _ => none }
def profileTimesRow : OpenClaim := { program := "ytlgpolfbilkmbaa", sum := "e765d82439bd47bd7bdf30e1a1f9ac8c18ee3f2241b9856ea51d9048559c0104", func := "loftblock/loftblocklaw34.ProfileTimes", spec := "profileTimes", inPlace := ["math/bits.Add64", "math/bits.Sub64"], unfollowed := true, recurses := true, named := ["math/bits.divideError", "math/bits.overflowError"], apart := false }
def ProfileTimesSaid : Prop := profileTimesRow.holds Try.pinned (OpenSpec.ofChange profileTimesSpec)

/-- ITS FALSE NEIGHBOUR: 'it returns false'. Refute it at one input. -/
def profileTimesWrong : ChangeSpec := { name := "profileTimes", fn := fun _ => fun
  | [d1, d2] => { results := [.lit (.bool false)], args := [d1, d2] }
  | _ => none }
def ProfileTimesWrongFalsely : Prop := profileTimesRow.holds Try.pinned (OpenSpec.ofChange profileTimesWrong)

/-- 'loftblocklaw34.ProfileReaches': WHATEVER THE INPUT: true; the input reads as it did. -/
def profileReachesSpec : ChangeSpec := { name := "profileReaches", fn := fun _ => fun
  | [d1, d2, d3, d4] => { results := [.lit (.bool true)], args := [d1, d2, d3, d4] }
  | _ => none }
def profileReachesRow : OpenClaim := { program := "ytlgpolfbilkmbaa", sum := "e765d82439bd47bd7bdf30e1a1f9ac8c18ee3f2241b9856ea51d9048559c0104", func := "loftblock/loftblocklaw34.ProfileReaches", spec := "profileReaches", inPlace := ["math/bits.Add64", "math/bits.Sub64"], unfollowed := true, recurses := true, named := ["math/bits.divideError", "math/bits.overflowError"], apart := false }
def ProfileReachesSaid : Prop := profileReachesRow.holds Try.pinned (OpenSpec.ofChange profileReachesSpec)

/-- ITS FALSE NEIGHBOUR: 'it returns false'. Refute it at one input. -/
def profileReachesWrong : ChangeSpec := { name := "profileReaches", fn := fun _ => fun
  | [d1, d2, d3, d4] => { results := [.lit (.bool false)], args := [d1, d2, d3, d4] }
  | _ => none }
def ProfileReachesWrongFalsely : Prop := profileReachesRow.holds Try.pinned (OpenSpec.ofChange profileReachesWrong)

/-- 'loftblocklaw34.ProfileSmooth': WHATEVER THE INPUT: true; the input reads as it did. -/
def profileSmoothSpec : ChangeSpec := { name := "profileSmooth", fn := fun _ => fun
  | [d1, d2, d3] => { results := [.lit (.bool true)], args := [d1, d2, d3] }
  | _ => none }
def profileSmoothRow : OpenClaim := { program := "ytlgpolfbilkmbaa", sum := "e765d82439bd47bd7bdf30e1a1f9ac8c18ee3f2241b9856ea51d9048559c0104", func := "loftblock/loftblocklaw34.ProfileSmooth", spec := "profileSmooth", inPlace := ["math/bits.Add64", "math/bits.Sub64"], unfollowed := true, recurses := true, named := ["math/bits.divideError", "math/bits.overflowError"], apart := false }
def ProfileSmoothSaid : Prop := profileSmoothRow.holds Try.pinned (OpenSpec.ofChange profileSmoothSpec)

/-- ITS FALSE NEIGHBOUR: 'it returns false'. Refute it at one input. -/
def profileSmoothWrong : ChangeSpec := { name := "profileSmooth", fn := fun _ => fun
  | [d1, d2, d3] => { results := [.lit (.bool false)], args := [d1, d2, d3] }
  | _ => none }
def ProfileSmoothWrongFalsely : Prop := profileSmoothRow.holds Try.pinned (OpenSpec.ofChange profileSmoothWrong)

/- THE SECOND FORM. 'bulk': how many values and letters a reading holds, each counted each time it is reached (what is shared counts as often as it is met; a slice's spare places count too). A statement '..UptoSaid' is the law's where the arguments, and the package variables that the reading takes, are together of bulk at most 1048576: NARROWER than '..Said'. Prove '..Said' where nothing that the law and all that it calls make is longer than what came in: it says more and counts as full. Else prove '..UptoSaid'. A law counts once. -/
mutual
def uptoBulk {H : Type} : DataW H → Nat
  | .lit (.string bytes) => bytes.length + 1
  | .lit _ => 1
  | .nil => 1
  | .ptr d => uptoBulk d + 1
  | .slice elems spare => uptoBulkAll elems + uptoBulkAll spare + 1
  | .agg parts => uptoBulkAll parts + 1
  | .iface _ d => uptoBulk d + 1
  | .map entries => uptoBulkEntries entries + 1
  | .held _ => 1
def uptoBulkAll {H : Type} : List (DataW H) → Nat
  | [] => 0
  | d :: r => uptoBulk d + uptoBulkAll r
def uptoBulkEntries {H : Type} : List (Lit × DataW H) → Nat
  | [] => 0
  | x :: r => uptoBulkEntry x + uptoBulkEntries r
def uptoBulkEntry {H : Type} : Lit × DataW H → Nat
  | (.string bytes, d) => bytes.length + uptoBulk d + 1
  | (_, d) => uptoBulk d + 1
 end
def uptoSmall : (H : Type) → List (DataW H) → Bool := fun _ ds => decide (uptoBulkAll ds ≤ 1048576)
def OpenSpec.upto (s : _root_.Go.ChangeSpec) : _root_.Go.OpenSpec := { _root_.Go.OpenSpec.ofChange s with cond := some uptoSmall }

/-- 'loftblocklaw34.ProfileTops', WHERE WHAT IT READS IS OF BULK AT MOST 1048576: true; the input reads as it did. -/
def profileTopsUptoRow : OpenClaim := { program := "ytlgpolfbilkmbaa", sum := "e765d82439bd47bd7bdf30e1a1f9ac8c18ee3f2241b9856ea51d9048559c0104", func := "loftblock/loftblocklaw34.ProfileTops", spec := "profileTops", inPlace := ["math/bits.Add64", "math/bits.Sub64"], unfollowed := true, recurses := true, named := ["math/bits.divideError", "math/bits.overflowError"], apart := false, narrowed := true }
def ProfileTopsUptoSaid : Prop := profileTopsUptoRow.holds Try.pinned (OpenSpec.upto profileTopsSpec)

/-- 'loftblocklaw34.ProfileCurves', WHERE WHAT IT READS IS OF BULK AT MOST 1048576: true; the input reads as it did. -/
def profileCurvesUptoRow : OpenClaim := { program := "ytlgpolfbilkmbaa", sum := "e765d82439bd47bd7bdf30e1a1f9ac8c18ee3f2241b9856ea51d9048559c0104", func := "loftblock/loftblocklaw34.ProfileCurves", spec := "profileCurves", inPlace := ["math/bits.Add64", "math/bits.Sub64"], unfollowed := true, recurses := true, named := ["math/bits.divideError", "math/bits.overflowError"], apart := false, narrowed := true }
def ProfileCurvesUptoSaid : Prop := profileCurvesUptoRow.holds Try.pinned (OpenSpec.upto profileCurvesSpec)

/-- 'loftblocklaw34.ProfileFaster', WHERE WHAT IT READS IS OF BULK AT MOST 1048576: true; the input reads as it did. -/
def profileFasterUptoRow : OpenClaim := { program := "ytlgpolfbilkmbaa", sum := "e765d82439bd47bd7bdf30e1a1f9ac8c18ee3f2241b9856ea51d9048559c0104", func := "loftblock/loftblocklaw34.ProfileFaster", spec := "profileFaster", inPlace := ["math/bits.Add64", "math/bits.Sub64"], unfollowed := true, recurses := true, named := ["math/bits.divideError", "math/bits.overflowError"], apart := false, narrowed := true }
def ProfileFasterUptoSaid : Prop := profileFasterUptoRow.holds Try.pinned (OpenSpec.upto profileFasterSpec)

/-- 'loftblocklaw34.ProfileGreatest', WHERE WHAT IT READS IS OF BULK AT MOST 1048576: true; the input reads as it did. -/
def profileGreatestUptoRow : OpenClaim := { program := "ytlgpolfbilkmbaa", sum := "e765d82439bd47bd7bdf30e1a1f9ac8c18ee3f2241b9856ea51d9048559c0104", func := "loftblock/loftblocklaw34.ProfileGreatest", spec := "profileGreatest", inPlace := ["math/bits.Add64", "math/bits.Sub64"], unfollowed := true, recurses := true, named := ["math/bits.divideError", "math/bits.overflowError"], apart := false, narrowed := true }
def ProfileGreatestUptoSaid : Prop := profileGreatestUptoRow.holds Try.pinned (OpenSpec.upto profileGreatestSpec)

/-- 'loftblocklaw34.ProfileTimes', WHERE WHAT IT READS IS OF BULK AT MOST 1048576: true; the input reads as it did. -/
def profileTimesUptoRow : OpenClaim := { program := "ytlgpolfbilkmbaa", sum := "e765d82439bd47bd7bdf30e1a1f9ac8c18ee3f2241b9856ea51d9048559c0104", func := "loftblock/loftblocklaw34.ProfileTimes", spec := "profileTimes", inPlace := ["math/bits.Add64", "math/bits.Sub64"], unfollowed := true, recurses := true, named := ["math/bits.divideError", "math/bits.overflowError"], apart := false, narrowed := true }
def ProfileTimesUptoSaid : Prop := profileTimesUptoRow.holds Try.pinned (OpenSpec.upto profileTimesSpec)

/-- 'loftblocklaw34.ProfileReaches', WHERE WHAT IT READS IS OF BULK AT MOST 1048576: true; the input reads as it did. -/
def profileReachesUptoRow : OpenClaim := { program := "ytlgpolfbilkmbaa", sum := "e765d82439bd47bd7bdf30e1a1f9ac8c18ee3f2241b9856ea51d9048559c0104", func := "loftblock/loftblocklaw34.ProfileReaches", spec := "profileReaches", inPlace := ["math/bits.Add64", "math/bits.Sub64"], unfollowed := true, recurses := true, named := ["math/bits.divideError", "math/bits.overflowError"], apart := false, narrowed := true }
def ProfileReachesUptoSaid : Prop := profileReachesUptoRow.holds Try.pinned (OpenSpec.upto profileReachesSpec)

/-- 'loftblocklaw34.ProfileSmooth', WHERE WHAT IT READS IS OF BULK AT MOST 1048576: true; the input reads as it did. -/
def profileSmoothUptoRow : OpenClaim := { program := "ytlgpolfbilkmbaa", sum := "e765d82439bd47bd7bdf30e1a1f9ac8c18ee3f2241b9856ea51d9048559c0104", func := "loftblock/loftblocklaw34.ProfileSmooth", spec := "profileSmooth", inPlace := ["math/bits.Add64", "math/bits.Sub64"], unfollowed := true, recurses := true, named := ["math/bits.divideError", "math/bits.overflowError"], apart := false, narrowed := true }
def ProfileSmoothUptoSaid : Prop := profileSmoothUptoRow.holds Try.pinned (OpenSpec.upto profileSmoothSpec)

end Rows
end Go.Proofs.Ytlgpolfbilkmbaa
