/-
  No cell of these rows narrows 'for every input' (looked for: loops, veiled, ifaces, maps, wideKeys, modest, calm, conditions, laid).
  DERIVED. THE GIVEN ROWS OF THIS SEAT. 6 by the template 'for every input the law returns true; each argument reads behind the call as it read before'; 0 by the template 'total and deterministic' (their statements: YtgijekinlkpbkaaTotals.lean).
  GIVEN WITH THE SEED: the statements are not yours to turn. If you find one false, say at which input.
  Laid BY PROGRAM, IN A SANDBOX (cutbox-rows.mjs): the forced cells as the released guide's own fill.sh prints them over the translation e0d83d683b889c7d… (all of the seat's roots in one cut). By AI agents, Wed Nov 11 2026. No macro, syntax, notation, axiom, sorry.
-/
import Derived.Test.YtgijekinlkpbkaaChecked
import GoSem.Claim
import GoSem.ClaimJoined
import GoSem.ClaimMapViews
import Derived.JoinedTies
import Derived.KernelRfl
namespace Go.Proofs.Ytgijekinlkpbkaa
/- THE CELL 'sum', in the pinned program and in every row, IS THE sha256 OF THE DUMP (.gsa) THAT YtgijekinlkpbkaaProg.lean LOADS. Nothing in Lean hashes anything: it is a label: what it is worth is what the hold of that sum in a sandbox is worth. -/
noncomputable def Try.pinned : Pinned := { name := "ytgijekinlkpbkaa", sum := "e0d83d683b889c7db9584783183e70a8f44ce3bc6bb2a44dfe8785685682fba7", checked := Try.checked }
namespace Rows
def none {H : Type} : Left H := { results := [], args := [] }

/-- 'loftblocklaw26.BricksFinds': WHATEVER THE INPUT: true; the input reads as it did. -/
def bricksFindsSpec : ChangeSpec := { name := "bricksFinds", fn := fun _ => fun
  | [d1, d2, d3, d4] => { results := [.lit (.bool true)], args := [d1, d2, d3, d4] }
  | _ => none }
def bricksFindsRow : OpenClaim := { program := "ytgijekinlkpbkaa", sum := "e0d83d683b889c7db9584783183e70a8f44ce3bc6bb2a44dfe8785685682fba7", func := "loftblock/loftblocklaw26.BricksFinds", spec := "bricksFinds", unfollowed := true, recurses := true, apart := false }
def BricksFindsSaid : Prop := bricksFindsRow.holds Try.pinned (OpenSpec.ofChange bricksFindsSpec)

/-- ITS FALSE NEIGHBOUR: 'it returns false'. Refute it at one input. -/
def bricksFindsWrong : ChangeSpec := { name := "bricksFinds", fn := fun _ => fun
  | [d1, d2, d3, d4] => { results := [.lit (.bool false)], args := [d1, d2, d3, d4] }
  | _ => none }
def BricksFindsWrongFalsely : Prop := bricksFindsRow.holds Try.pinned (OpenSpec.ofChange bricksFindsWrong)

/-- 'loftblocklaw26.BricksPairs': WHATEVER THE INPUT: true; the input reads as it did. -/
def bricksPairsSpec : ChangeSpec := { name := "bricksPairs", fn := fun _ => fun
  | [d1, d2] => { results := [.lit (.bool true)], args := [d1, d2] }
  | _ => none }
def bricksPairsRow : OpenClaim := { program := "ytgijekinlkpbkaa", sum := "e0d83d683b889c7db9584783183e70a8f44ce3bc6bb2a44dfe8785685682fba7", func := "loftblock/loftblocklaw26.BricksPairs", spec := "bricksPairs", unfollowed := true, recurses := true, apart := false }
def BricksPairsSaid : Prop := bricksPairsRow.holds Try.pinned (OpenSpec.ofChange bricksPairsSpec)

/-- ITS FALSE NEIGHBOUR: 'it returns false'. Refute it at one input. -/
def bricksPairsWrong : ChangeSpec := { name := "bricksPairs", fn := fun _ => fun
  | [d1, d2] => { results := [.lit (.bool false)], args := [d1, d2] }
  | _ => none }
def BricksPairsWrongFalsely : Prop := bricksPairsRow.holds Try.pinned (OpenSpec.ofChange bricksPairsWrong)

/-- 'loftblocklaw26.BricksNear': WHATEVER THE INPUT: true; the input reads as it did. -/
def bricksNearSpec : ChangeSpec := { name := "bricksNear", fn := fun _ => fun
  | [d1, d2] => { results := [.lit (.bool true)], args := [d1, d2] }
  | _ => none }
def bricksNearRow : OpenClaim := { program := "ytgijekinlkpbkaa", sum := "e0d83d683b889c7db9584783183e70a8f44ce3bc6bb2a44dfe8785685682fba7", func := "loftblock/loftblocklaw26.BricksNear", spec := "bricksNear", unfollowed := true, recurses := true, apart := false }
def BricksNearSaid : Prop := bricksNearRow.holds Try.pinned (OpenSpec.ofChange bricksNearSpec)

/-- ITS FALSE NEIGHBOUR: 'it returns false'. Refute it at one input. -/
def bricksNearWrong : ChangeSpec := { name := "bricksNear", fn := fun _ => fun
  | [d1, d2] => { results := [.lit (.bool false)], args := [d1, d2] }
  | _ => none }
def BricksNearWrongFalsely : Prop := bricksNearRow.holds Try.pinned (OpenSpec.ofChange bricksNearWrong)

/-- 'loftblocklaw26.BricksWindows': WHATEVER THE INPUT: true; the input reads as it did. -/
def bricksWindowsSpec : ChangeSpec := { name := "bricksWindows", fn := fun _ => fun
  | [d1, d2, d3, d4] => { results := [.lit (.bool true)], args := [d1, d2, d3, d4] }
  | _ => none }
def bricksWindowsRow : OpenClaim := { program := "ytgijekinlkpbkaa", sum := "e0d83d683b889c7db9584783183e70a8f44ce3bc6bb2a44dfe8785685682fba7", func := "loftblock/loftblocklaw26.BricksWindows", spec := "bricksWindows", unfollowed := true, recurses := true, apart := false }
def BricksWindowsSaid : Prop := bricksWindowsRow.holds Try.pinned (OpenSpec.ofChange bricksWindowsSpec)

/-- ITS FALSE NEIGHBOUR: 'it returns false'. Refute it at one input. -/
def bricksWindowsWrong : ChangeSpec := { name := "bricksWindows", fn := fun _ => fun
  | [d1, d2, d3, d4] => { results := [.lit (.bool false)], args := [d1, d2, d3, d4] }
  | _ => none }
def BricksWindowsWrongFalsely : Prop := bricksWindowsRow.holds Try.pinned (OpenSpec.ofChange bricksWindowsWrong)

/-- 'loftblocklaw26.BricksSums': WHATEVER THE INPUT: true; the input reads as it did. -/
def bricksSumsSpec : ChangeSpec := { name := "bricksSums", fn := fun _ => fun
  | [d1, d2] => { results := [.lit (.bool true)], args := [d1, d2] }
  | _ => none }
def bricksSumsRow : OpenClaim := { program := "ytgijekinlkpbkaa", sum := "e0d83d683b889c7db9584783183e70a8f44ce3bc6bb2a44dfe8785685682fba7", func := "loftblock/loftblocklaw26.BricksSums", spec := "bricksSums", unfollowed := true, recurses := true, apart := false }
def BricksSumsSaid : Prop := bricksSumsRow.holds Try.pinned (OpenSpec.ofChange bricksSumsSpec)

/-- ITS FALSE NEIGHBOUR: 'it returns false'. Refute it at one input. -/
def bricksSumsWrong : ChangeSpec := { name := "bricksSums", fn := fun _ => fun
  | [d1, d2] => { results := [.lit (.bool false)], args := [d1, d2] }
  | _ => none }
def BricksSumsWrongFalsely : Prop := bricksSumsRow.holds Try.pinned (OpenSpec.ofChange bricksSumsWrong)

/-- 'loftblocklaw26.BricksExact': WHATEVER THE INPUT: true; the input reads as it did. -/
def bricksExactSpec : ChangeSpec := { name := "bricksExact", fn := fun _ => fun
  | [d1, d2, d3] => { results := [.lit (.bool true)], args := [d1, d2, d3] }
  | _ => none }
def bricksExactRow : OpenClaim := { program := "ytgijekinlkpbkaa", sum := "e0d83d683b889c7db9584783183e70a8f44ce3bc6bb2a44dfe8785685682fba7", func := "loftblock/loftblocklaw26.BricksExact", spec := "bricksExact", unfollowed := true, recurses := true, apart := false }
def BricksExactSaid : Prop := bricksExactRow.holds Try.pinned (OpenSpec.ofChange bricksExactSpec)

/-- ITS FALSE NEIGHBOUR: 'it returns false'. Refute it at one input. -/
def bricksExactWrong : ChangeSpec := { name := "bricksExact", fn := fun _ => fun
  | [d1, d2, d3] => { results := [.lit (.bool false)], args := [d1, d2, d3] }
  | _ => none }
def BricksExactWrongFalsely : Prop := bricksExactRow.holds Try.pinned (OpenSpec.ofChange bricksExactWrong)

/- THE SECOND FORM. 'bulk': how many values and letters a reading holds, each counted each time it is reached (what is shared counts as often as it is met; a slice's spare places count too). A statement '..UptoSaid' is the law's where the arguments, and the package variables that the reading takes, are together of bulk at most 1048576: NARROWER than '..Said'. Prove '..Said' where nothing that the law and all that it calls make is longer than what came in: it says more and counts as full. Else prove '..UptoSaid'. A law counts once. -/
mutual
def uptoBulk {H : Type} : DataW H → Nat
  | .lit (.string bytes) => bytes.length + 1
  | .lit _ => 1
  | .nil => 1
  | .ptr d => uptoBulk d + 1
  | .slice elems spare => uptoBulkAll elems + uptoBulkAll spare + 1
  | .agg parts => uptoBulkAll parts + 1
  | .iface _ d => uptoBulk d + 1
  | .map entries => uptoBulkEntries entries + 1
  | .held _ => 1
def uptoBulkAll {H : Type} : List (DataW H) → Nat
  | [] => 0
  | d :: r => uptoBulk d + uptoBulkAll r
def uptoBulkEntries {H : Type} : List (Lit × DataW H) → Nat
  | [] => 0
  | x :: r => uptoBulkEntry x + uptoBulkEntries r
def uptoBulkEntry {H : Type} : Lit × DataW H → Nat
  | (.string bytes, d) => bytes.length + uptoBulk d + 1
  | (_, d) => uptoBulk d + 1
 end
def uptoSmall : (H : Type) → List (DataW H) → Bool := fun _ ds => decide (uptoBulkAll ds ≤ 1048576)
def OpenSpec.upto (s : _root_.Go.ChangeSpec) : _root_.Go.OpenSpec := { _root_.Go.OpenSpec.ofChange s with cond := some uptoSmall }

/-- 'loftblocklaw26.BricksFinds', WHERE WHAT IT READS IS OF BULK AT MOST 1048576: true; the input reads as it did. -/
def bricksFindsUptoRow : OpenClaim := { program := "ytgijekinlkpbkaa", sum := "e0d83d683b889c7db9584783183e70a8f44ce3bc6bb2a44dfe8785685682fba7", func := "loftblock/loftblocklaw26.BricksFinds", spec := "bricksFinds", unfollowed := true, recurses := true, apart := false, narrowed := true }
def BricksFindsUptoSaid : Prop := bricksFindsUptoRow.holds Try.pinned (OpenSpec.upto bricksFindsSpec)

/-- 'loftblocklaw26.BricksPairs', WHERE WHAT IT READS IS OF BULK AT MOST 1048576: true; the input reads as it did. -/
def bricksPairsUptoRow : OpenClaim := { program := "ytgijekinlkpbkaa", sum := "e0d83d683b889c7db9584783183e70a8f44ce3bc6bb2a44dfe8785685682fba7", func := "loftblock/loftblocklaw26.BricksPairs", spec := "bricksPairs", unfollowed := true, recurses := true, apart := false, narrowed := true }
def BricksPairsUptoSaid : Prop := bricksPairsUptoRow.holds Try.pinned (OpenSpec.upto bricksPairsSpec)

/-- 'loftblocklaw26.BricksNear', WHERE WHAT IT READS IS OF BULK AT MOST 1048576: true; the input reads as it did. -/
def bricksNearUptoRow : OpenClaim := { program := "ytgijekinlkpbkaa", sum := "e0d83d683b889c7db9584783183e70a8f44ce3bc6bb2a44dfe8785685682fba7", func := "loftblock/loftblocklaw26.BricksNear", spec := "bricksNear", unfollowed := true, recurses := true, apart := false, narrowed := true }
def BricksNearUptoSaid : Prop := bricksNearUptoRow.holds Try.pinned (OpenSpec.upto bricksNearSpec)

/-- 'loftblocklaw26.BricksWindows', WHERE WHAT IT READS IS OF BULK AT MOST 1048576: true; the input reads as it did. -/
def bricksWindowsUptoRow : OpenClaim := { program := "ytgijekinlkpbkaa", sum := "e0d83d683b889c7db9584783183e70a8f44ce3bc6bb2a44dfe8785685682fba7", func := "loftblock/loftblocklaw26.BricksWindows", spec := "bricksWindows", unfollowed := true, recurses := true, apart := false, narrowed := true }
def BricksWindowsUptoSaid : Prop := bricksWindowsUptoRow.holds Try.pinned (OpenSpec.upto bricksWindowsSpec)

/-- 'loftblocklaw26.BricksSums', WHERE WHAT IT READS IS OF BULK AT MOST 1048576: true; the input reads as it did. -/
def bricksSumsUptoRow : OpenClaim := { program := "ytgijekinlkpbkaa", sum := "e0d83d683b889c7db9584783183e70a8f44ce3bc6bb2a44dfe8785685682fba7", func := "loftblock/loftblocklaw26.BricksSums", spec := "bricksSums", unfollowed := true, recurses := true, apart := false, narrowed := true }
def BricksSumsUptoSaid : Prop := bricksSumsUptoRow.holds Try.pinned (OpenSpec.upto bricksSumsSpec)

/-- 'loftblocklaw26.BricksExact', WHERE WHAT IT READS IS OF BULK AT MOST 1048576: true; the input reads as it did. -/
def bricksExactUptoRow : OpenClaim := { program := "ytgijekinlkpbkaa", sum := "e0d83d683b889c7db9584783183e70a8f44ce3bc6bb2a44dfe8785685682fba7", func := "loftblock/loftblocklaw26.BricksExact", spec := "bricksExact", unfollowed := true, recurses := true, apart := false, narrowed := true }
def BricksExactUptoSaid : Prop := bricksExactUptoRow.holds Try.pinned (OpenSpec.upto bricksExactSpec)

end Rows
end Go.Proofs.Ytgijekinlkpbkaa
