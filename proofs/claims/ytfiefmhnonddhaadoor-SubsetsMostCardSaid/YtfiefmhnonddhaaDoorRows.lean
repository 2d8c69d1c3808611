/-
  NARROWER THAN 'FOR EVERY INPUT', by the rows' own cells (each row's printed sentence says how): SubsetsFinds: laid · SubsetsOrder: laid · SubsetsSums: laid · SubsetsParts: laid · SubsetsMost: laid · SubsetsPairs: laid.
  DERIVED. THE GIVEN ROWS OF THIS SEAT. 6 by the template 'for every input the law returns true; each argument reads behind the call as it read before'; 0 by the template 'total and deterministic' (their statements: YtfiefmhnonddhaaDoorTotals.lean).
  GIVEN WITH THE SEED: the statements are not yours to turn. If you find one false, say at which input.
  Laid BY PROGRAM, IN A SANDBOX (cutbox-rows.mjs): the forced cells as the released guide's own fill.sh prints them over the translation 24cc8cc7642b753f… (all of the seat's roots in one cut). By AI agents, Wed Nov 11 2026. No macro, syntax, notation, axiom, sorry.
-/
import Derived.Test.YtfiefmhnonddhaaDoorChecked
import GoSem.Claim
import GoSem.ClaimJoined
import GoSem.ClaimMapViews
import Derived.JoinedTies
import Derived.KernelRfl
namespace Go.Proofs.YtfiefmhnonddhaaDoor
/- THE CELL 'sum', in the pinned program and in every row, IS THE sha256 OF THE DUMP (.gsa) THAT YtfiefmhnonddhaaDoorProg.lean LOADS. Nothing in Lean hashes anything: it is a label: what it is worth is what the hold of that sum in a sandbox is worth. -/
noncomputable def Tryd.pinned : Pinned := { name := "ytfiefmhnonddhaadoor", sum := "24cc8cc7642b753ff71cf0312a3aaf98d4307b781f335caf06464eee3117086e", checked := Tryd.checked }
namespace Rows
def none {H : Type} : Left H := { results := [], args := [] }

/- WHAT THE LISTED PACKAGE-LEVEL VARIABLES READ AS WHEN THE CALL BEGINS. Each datum BY PROGRAM (the guide's laid-datum.mjs) off the statement by which the dump's own 'gosem.cut.vars' lays the variable. In a bare row this is a premise. The card (YtfiefmhnonddhaaDoorCards.lean) ties it to the program's text. -/
def laid_math_bits_deBruijn32tab {H : Type} : DataW H := .agg [.lit (.int .u8 0), .lit (.int .u8 1), .lit (.int .u8 28), .lit (.int .u8 2), .lit (.int .u8 29), .lit (.int .u8 14), .lit (.int .u8 24), .lit (.int .u8 3), .lit (.int .u8 30), .lit (.int .u8 22), .lit (.int .u8 20), .lit (.int .u8 15), .lit (.int .u8 25), .lit (.int .u8 17), .lit (.int .u8 4), .lit (.int .u8 8), .lit (.int .u8 31), .lit (.int .u8 27), .lit (.int .u8 13), .lit (.int .u8 23), .lit (.int .u8 21), .lit (.int .u8 19), .lit (.int .u8 16), .lit (.int .u8 7), .lit (.int .u8 26), .lit (.int .u8 12), .lit (.int .u8 18), .lit (.int .u8 6), .lit (.int .u8 11), .lit (.int .u8 5), .lit (.int .u8 10), .lit (.int .u8 9)]
def laid_math_bits_deBruijn64tab {H : Type} : DataW H := .agg [.lit (.int .u8 0), .lit (.int .u8 1), .lit (.int .u8 56), .lit (.int .u8 2), .lit (.int .u8 57), .lit (.int .u8 49), .lit (.int .u8 28), .lit (.int .u8 3), .lit (.int .u8 61), .lit (.int .u8 58), .lit (.int .u8 42), .lit (.int .u8 50), .lit (.int .u8 38), .lit (.int .u8 29), .lit (.int .u8 17), .lit (.int .u8 4), .lit (.int .u8 62), .lit (.int .u8 47), .lit (.int .u8 59), .lit (.int .u8 36), .lit (.int .u8 45), .lit (.int .u8 43), .lit (.int .u8 51), .lit (.int .u8 22), .lit (.int .u8 53), .lit (.int .u8 39), .lit (.int .u8 33), .lit (.int .u8 30), .lit (.int .u8 24), .lit (.int .u8 18), .lit (.int .u8 12), .lit (.int .u8 5), .lit (.int .u8 63), .lit (.int .u8 55), .lit (.int .u8 48), .lit (.int .u8 27), .lit (.int .u8 60), .lit (.int .u8 41), .lit (.int .u8 37), .lit (.int .u8 16), .lit (.int .u8 46), .lit (.int .u8 35), .lit (.int .u8 44), .lit (.int .u8 21), .lit (.int .u8 52), .lit (.int .u8 32), .lit (.int .u8 23), .lit (.int .u8 11), .lit (.int .u8 54), .lit (.int .u8 26), .lit (.int .u8 40), .lit (.int .u8 15), .lit (.int .u8 34), .lit (.int .u8 20), .lit (.int .u8 31), .lit (.int .u8 10), .lit (.int .u8 25), .lit (.int .u8 14), .lit (.int .u8 19), .lit (.int .u8 9), .lit (.int .u8 13), .lit (.int .u8 8), .lit (.int .u8 7), .lit (.int .u8 6)]

/-- 'loftblocklaw07.SubsetsFinds': WHATEVER THE INPUT: true; the input reads as it did. -/
def subsetsFindsSpec : ChangeSpec := { name := "subsetsFinds", fn := fun _ => fun
  | [d1, d2] => { results := [.lit (.bool true)], args := [d1, d2] }
  | _ => none }
def subsetsFindsRow : OpenClaim := { program := "ytfiefmhnonddhaadoor", sum := "24cc8cc7642b753ff71cf0312a3aaf98d4307b781f335caf06464eee3117086e", func := "loftblock/loftblocklaw07.SubsetsFinds", spec := "subsetsFinds", unfollowed := true, recurses := true, named := ["math/bits.deBruijn32tab", "math/bits.deBruijn64tab"], apart := false, laid := [("math/bits.deBruijn32tab", laid_math_bits_deBruijn32tab), ("math/bits.deBruijn64tab", laid_math_bits_deBruijn64tab)] }
def SubsetsFindsSaid : Prop := subsetsFindsRow.holds Tryd.pinned (OpenSpec.ofChange subsetsFindsSpec)

/-- ITS FALSE NEIGHBOUR: 'it returns false'. Refute it at one input. -/
def subsetsFindsWrong : ChangeSpec := { name := "subsetsFinds", fn := fun _ => fun
  | [d1, d2] => { results := [.lit (.bool false)], args := [d1, d2] }
  | _ => none }
def SubsetsFindsWrongFalsely : Prop := subsetsFindsRow.holds Tryd.pinned (OpenSpec.ofChange subsetsFindsWrong)

/-- 'loftblocklaw07.SubsetsOrder': WHATEVER THE INPUT: true; the input reads as it did. -/
def subsetsOrderSpec : ChangeSpec := { name := "subsetsOrder", fn := fun _ => fun
  | [d1, d2] => { results := [.lit (.bool true)], args := [d1, d2] }
  | _ => none }
def subsetsOrderRow : OpenClaim := { program := "ytfiefmhnonddhaadoor", sum := "24cc8cc7642b753ff71cf0312a3aaf98d4307b781f335caf06464eee3117086e", func := "loftblock/loftblocklaw07.SubsetsOrder", spec := "subsetsOrder", unfollowed := true, recurses := true, named := ["math/bits.deBruijn32tab", "math/bits.deBruijn64tab"], apart := false, laid := [("math/bits.deBruijn32tab", laid_math_bits_deBruijn32tab), ("math/bits.deBruijn64tab", laid_math_bits_deBruijn64tab)] }
def SubsetsOrderSaid : Prop := subsetsOrderRow.holds Tryd.pinned (OpenSpec.ofChange subsetsOrderSpec)

/-- ITS FALSE NEIGHBOUR: 'it returns false'. Refute it at one input. -/
def subsetsOrderWrong : ChangeSpec := { name := "subsetsOrder", fn := fun _ => fun
  | [d1, d2] => { results := [.lit (.bool false)], args := [d1, d2] }
  | _ => none }
def SubsetsOrderWrongFalsely : Prop := subsetsOrderRow.holds Tryd.pinned (OpenSpec.ofChange subsetsOrderWrong)

/-- 'loftblocklaw07.SubsetsSums': WHATEVER THE INPUT: true; the input reads as it did. -/
def subsetsSumsSpec : ChangeSpec := { name := "subsetsSums", fn := fun _ => fun
  | [d1, d2] => { results := [.lit (.bool true)], args := [d1, d2] }
  | _ => none }
def subsetsSumsRow : OpenClaim := { program := "ytfiefmhnonddhaadoor", sum := "24cc8cc7642b753ff71cf0312a3aaf98d4307b781f335caf06464eee3117086e", func := "loftblock/loftblocklaw07.SubsetsSums", spec := "subsetsSums", unfollowed := true, recurses := true, named := ["math/bits.deBruijn32tab", "math/bits.deBruijn64tab"], apart := false, laid := [("math/bits.deBruijn32tab", laid_math_bits_deBruijn32tab), ("math/bits.deBruijn64tab", laid_math_bits_deBruijn64tab)] }
def SubsetsSumsSaid : Prop := subsetsSumsRow.holds Tryd.pinned (OpenSpec.ofChange subsetsSumsSpec)

/-- ITS FALSE NEIGHBOUR: 'it returns false'. Refute it at one input. -/
def subsetsSumsWrong : ChangeSpec := { name := "subsetsSums", fn := fun _ => fun
  | [d1, d2] => { results := [.lit (.bool false)], args := [d1, d2] }
  | _ => none }
def SubsetsSumsWrongFalsely : Prop := subsetsSumsRow.holds Tryd.pinned (OpenSpec.ofChange subsetsSumsWrong)

/-- 'loftblocklaw07.SubsetsParts': WHATEVER THE INPUT: true; the input reads as it did. -/
def subsetsPartsSpec : ChangeSpec := { name := "subsetsParts", fn := fun _ => fun
  | [d1, d2] => { results := [.lit (.bool true)], args := [d1, d2] }
  | _ => none }
def subsetsPartsRow : OpenClaim := { program := "ytfiefmhnonddhaadoor", sum := "24cc8cc7642b753ff71cf0312a3aaf98d4307b781f335caf06464eee3117086e", func := "loftblock/loftblocklaw07.SubsetsParts", spec := "subsetsParts", unfollowed := true, recurses := true, named := ["math/bits.deBruijn32tab", "math/bits.deBruijn64tab"], apart := false, laid := [("math/bits.deBruijn32tab", laid_math_bits_deBruijn32tab), ("math/bits.deBruijn64tab", laid_math_bits_deBruijn64tab)] }
def SubsetsPartsSaid : Prop := subsetsPartsRow.holds Tryd.pinned (OpenSpec.ofChange subsetsPartsSpec)

/-- ITS FALSE NEIGHBOUR: 'it returns false'. Refute it at one input. -/
def subsetsPartsWrong : ChangeSpec := { name := "subsetsParts", fn := fun _ => fun
  | [d1, d2] => { results := [.lit (.bool false)], args := [d1, d2] }
  | _ => none }
def SubsetsPartsWrongFalsely : Prop := subsetsPartsRow.holds Tryd.pinned (OpenSpec.ofChange subsetsPartsWrong)

/-- 'loftblocklaw07.SubsetsMost': WHATEVER THE INPUT: true; the input reads as it did. -/
def subsetsMostSpec : ChangeSpec := { name := "subsetsMost", fn := fun _ => fun
  | [d1, d2] => { results := [.lit (.bool true)], args := [d1, d2] }
  | _ => none }
def subsetsMostRow : OpenClaim := { program := "ytfiefmhnonddhaadoor", sum := "24cc8cc7642b753ff71cf0312a3aaf98d4307b781f335caf06464eee3117086e", func := "loftblock/loftblocklaw07.SubsetsMost", spec := "subsetsMost", unfollowed := true, recurses := true, named := ["math/bits.deBruijn32tab", "math/bits.deBruijn64tab"], apart := false, laid := [("math/bits.deBruijn32tab", laid_math_bits_deBruijn32tab), ("math/bits.deBruijn64tab", laid_math_bits_deBruijn64tab)] }
def SubsetsMostSaid : Prop := subsetsMostRow.holds Tryd.pinned (OpenSpec.ofChange subsetsMostSpec)

/-- ITS FALSE NEIGHBOUR: 'it returns false'. Refute it at one input. -/
def subsetsMostWrong : ChangeSpec := { name := "subsetsMost", fn := fun _ => fun
  | [d1, d2] => { results := [.lit (.bool false)], args := [d1, d2] }
  | _ => none }
def SubsetsMostWrongFalsely : Prop := subsetsMostRow.holds Tryd.pinned (OpenSpec.ofChange subsetsMostWrong)

/-- 'loftblocklaw07.SubsetsPairs': WHATEVER THE INPUT: true; the input reads as it did. -/
def subsetsPairsSpec : ChangeSpec := { name := "subsetsPairs", fn := fun _ => fun
  | [d1, d2] => { results := [.lit (.bool true)], args := [d1, d2] }
  | _ => none }
def subsetsPairsRow : OpenClaim := { program := "ytfiefmhnonddhaadoor", sum := "24cc8cc7642b753ff71cf0312a3aaf98d4307b781f335caf06464eee3117086e", func := "loftblock/loftblocklaw07.SubsetsPairs", spec := "subsetsPairs", unfollowed := true, recurses := true, named := ["math/bits.deBruijn32tab", "math/bits.deBruijn64tab"], apart := false, laid := [("math/bits.deBruijn32tab", laid_math_bits_deBruijn32tab), ("math/bits.deBruijn64tab", laid_math_bits_deBruijn64tab)] }
def SubsetsPairsSaid : Prop := subsetsPairsRow.holds Tryd.pinned (OpenSpec.ofChange subsetsPairsSpec)

/-- ITS FALSE NEIGHBOUR: 'it returns false'. Refute it at one input. -/
def subsetsPairsWrong : ChangeSpec := { name := "subsetsPairs", fn := fun _ => fun
  | [d1, d2] => { results := [.lit (.bool false)], args := [d1, d2] }
  | _ => none }
def SubsetsPairsWrongFalsely : Prop := subsetsPairsRow.holds Tryd.pinned (OpenSpec.ofChange subsetsPairsWrong)

/- THE SECOND FORM. 'bulk': how many values and letters a reading holds, each counted each time it is reached (what is shared counts as often as it is met; a slice's spare places count too). A statement '..UptoSaid' is the law's where the arguments, and the package variables that the reading takes, are together of bulk at most 1048576: NARROWER than '..Said'. Prove '..Said' where nothing that the law and all that it calls make is longer than what came in: it says more and counts as full. Else prove '..UptoSaid'. A law counts once. -/
mutual
def uptoBulk {H : Type} : DataW H → Nat
  | .lit (.string bytes) => bytes.length + 1
  | .lit _ => 1
  | .nil => 1
  | .ptr d => uptoBulk d + 1
  | .slice elems spare => uptoBulkAll elems + uptoBulkAll spare + 1
  | .agg parts => uptoBulkAll parts + 1
  | .iface _ d => uptoBulk d + 1
  | .map entries => uptoBulkEntries entries + 1
  | .held _ => 1
def uptoBulkAll {H : Type} : List (DataW H) → Nat
  | [] => 0
  | d :: r => uptoBulk d + uptoBulkAll r
def uptoBulkEntries {H : Type} : List (Lit × DataW H) → Nat
  | [] => 0
  | x :: r => uptoBulkEntry x + uptoBulkEntries r
def uptoBulkEntry {H : Type} : Lit × DataW H → Nat
  | (.string bytes, d) => bytes.length + uptoBulk d + 1
  | (_, d) => uptoBulk d + 1
 end
def uptoSmall : (H : Type) → List (DataW H) → Bool := fun _ ds => decide (uptoBulkAll ds ≤ 1048576)
def OpenSpec.upto (s : _root_.Go.ChangeSpec) : _root_.Go.OpenSpec := { _root_.Go.OpenSpec.ofChange s with cond := some uptoSmall }

/-- 'loftblocklaw07.SubsetsFinds', WHERE WHAT IT READS IS OF BULK AT MOST 1048576: true; the input reads as it did. -/
def subsetsFindsUptoRow : OpenClaim := { program := "ytfiefmhnonddhaadoor", sum := "24cc8cc7642b753ff71cf0312a3aaf98d4307b781f335caf06464eee3117086e", func := "loftblock/loftblocklaw07.SubsetsFinds", spec := "subsetsFinds", unfollowed := true, recurses := true, named := ["math/bits.deBruijn32tab", "math/bits.deBruijn64tab"], apart := false, laid := [("math/bits.deBruijn32tab", laid_math_bits_deBruijn32tab), ("math/bits.deBruijn64tab", laid_math_bits_deBruijn64tab)], narrowed := true }
def SubsetsFindsUptoSaid : Prop := subsetsFindsUptoRow.holds Tryd.pinned (OpenSpec.upto subsetsFindsSpec)

/-- 'loftblocklaw07.SubsetsOrder', WHERE WHAT IT READS IS OF BULK AT MOST 1048576: true; the input reads as it did. -/
def subsetsOrderUptoRow : OpenClaim := { program := "ytfiefmhnonddhaadoor", sum := "24cc8cc7642b753ff71cf0312a3aaf98d4307b781f335caf06464eee3117086e", func := "loftblock/loftblocklaw07.SubsetsOrder", spec := "subsetsOrder", unfollowed := true, recurses := true, named := ["math/bits.deBruijn32tab", "math/bits.deBruijn64tab"], apart := false, laid := [("math/bits.deBruijn32tab", laid_math_bits_deBruijn32tab), ("math/bits.deBruijn64tab", laid_math_bits_deBruijn64tab)], narrowed := true }
def SubsetsOrderUptoSaid : Prop := subsetsOrderUptoRow.holds Tryd.pinned (OpenSpec.upto subsetsOrderSpec)

/-- 'loftblocklaw07.SubsetsSums', WHERE WHAT IT READS IS OF BULK AT MOST 1048576: true; the input reads as it did. -/
def subsetsSumsUptoRow : OpenClaim := { program := "ytfiefmhnonddhaadoor", sum := "24cc8cc7642b753ff71cf0312a3aaf98d4307b781f335caf06464eee3117086e", func := "loftblock/loftblocklaw07.SubsetsSums", spec := "subsetsSums", unfollowed := true, recurses := true, named := ["math/bits.deBruijn32tab", "math/bits.deBruijn64tab"], apart := false, laid := [("math/bits.deBruijn32tab", laid_math_bits_deBruijn32tab), ("math/bits.deBruijn64tab", laid_math_bits_deBruijn64tab)], narrowed := true }
def SubsetsSumsUptoSaid : Prop := subsetsSumsUptoRow.holds Tryd.pinned (OpenSpec.upto subsetsSumsSpec)

/-- 'loftblocklaw07.SubsetsParts', WHERE WHAT IT READS IS OF BULK AT MOST 1048576: true; the input reads as it did. -/
def subsetsPartsUptoRow : OpenClaim := { program := "ytfiefmhnonddhaadoor", sum := "24cc8cc7642b753ff71cf0312a3aaf98d4307b781f335caf06464eee3117086e", func := "loftblock/loftblocklaw07.SubsetsParts", spec := "subsetsParts", unfollowed := true, recurses := true, named := ["math/bits.deBruijn32tab", "math/bits.deBruijn64tab"], apart := false, laid := [("math/bits.deBruijn32tab", laid_math_bits_deBruijn32tab), ("math/bits.deBruijn64tab", laid_math_bits_deBruijn64tab)], narrowed := true }
def SubsetsPartsUptoSaid : Prop := subsetsPartsUptoRow.holds Tryd.pinned (OpenSpec.upto subsetsPartsSpec)

/-- 'loftblocklaw07.SubsetsMost', WHERE WHAT IT READS IS OF BULK AT MOST 1048576: true; the input reads as it did. -/
def subsetsMostUptoRow : OpenClaim := { program := "ytfiefmhnonddhaadoor", sum := "24cc8cc7642b753ff71cf0312a3aaf98d4307b781f335caf06464eee3117086e", func := "loftblock/loftblocklaw07.SubsetsMost", spec := "subsetsMost", unfollowed := true, recurses := true, named := ["math/bits.deBruijn32tab", "math/bits.deBruijn64tab"], apart := false, laid := [("math/bits.deBruijn32tab", laid_math_bits_deBruijn32tab), ("math/bits.deBruijn64tab", laid_math_bits_deBruijn64tab)], narrowed := true }
def SubsetsMostUptoSaid : Prop := subsetsMostUptoRow.holds Tryd.pinned (OpenSpec.upto subsetsMostSpec)

/-- 'loftblocklaw07.SubsetsPairs', WHERE WHAT IT READS IS OF BULK AT MOST 1048576: true; the input reads as it did. -/
def subsetsPairsUptoRow : OpenClaim := { program := "ytfiefmhnonddhaadoor", sum := "24cc8cc7642b753ff71cf0312a3aaf98d4307b781f335caf06464eee3117086e", func := "loftblock/loftblocklaw07.SubsetsPairs", spec := "subsetsPairs", unfollowed := true, recurses := true, named := ["math/bits.deBruijn32tab", "math/bits.deBruijn64tab"], apart := false, laid := [("math/bits.deBruijn32tab", laid_math_bits_deBruijn32tab), ("math/bits.deBruijn64tab", laid_math_bits_deBruijn64tab)], narrowed := true }
def SubsetsPairsUptoSaid : Prop := subsetsPairsUptoRow.holds Tryd.pinned (OpenSpec.upto subsetsPairsSpec)

end Rows
end Go.Proofs.YtfiefmhnonddhaaDoor
