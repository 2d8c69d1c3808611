/-
  No cell of these rows narrows 'for every input' (looked for: loops, veiled, ifaces, maps, wideKeys, modest, calm, conditions, laid).
  DERIVED. THE GIVEN ROWS OF THIS SEAT. 7 by the template 'for every input the law returns true; each argument reads behind the call as it read before'; 0 by the template 'total and deterministic' (their statements: YtapjhjpibefooaaTotals.lean).
  GIVEN WITH THE SEED: the statements are not yours to turn. If you find one false, say at which input.
  Laid BY PROGRAM, IN A SANDBOX (cutbox-rows.mjs): the forced cells as the released guide's own fill.sh prints them over the translation 6a9718ad517e004d… (all of the seat's roots in one cut). By AI agents, Wed Nov 11 2026. No macro, syntax, notation, axiom, sorry.
-/
import Derived.Test.YtapjhjpibefooaaChecked
import GoSem.Claim
import GoSem.ClaimJoined
import GoSem.ClaimMapViews
import Derived.JoinedTies
import Derived.KernelRfl
namespace Go.Proofs.Ytapjhjpibefooaa
/- THE CELL 'sum', in the pinned program and in every row, IS THE sha256 OF THE DUMP (.gsa) THAT YtapjhjpibefooaaProg.lean LOADS. Nothing in Lean hashes anything: it is a label: what it is worth is what the hold of that sum in a sandbox is worth. -/
noncomputable def Try.pinned : Pinned := { name := "ytapjhjpibefooaa", sum := "6a9718ad517e004d217dda8732de0f93f48c55401f238dab5f753f76b0937ec1", checked := Try.checked }
namespace Rows
def none {H : Type} : Left H := { results := [], args := [] }

/-- 'loftblocklaw37.LinksStarts': WHATEVER THE INPUT: true; the input reads as it did. -/
def linksStartsSpec : ChangeSpec := { name := "linksStarts", fn := fun _ => fun
  | [d1, d2, d3, d4] => { results := [.lit (.bool true)], args := [d1, d2, d3, d4] }
  | _ => none }
def linksStartsRow : OpenClaim := { program := "ytapjhjpibefooaa", sum := "6a9718ad517e004d217dda8732de0f93f48c55401f238dab5f753f76b0937ec1", func := "loftblock/loftblocklaw37.LinksStarts", spec := "linksStarts", unfollowed := true, recurses := true, apart := false }
def LinksStartsSaid : Prop := linksStartsRow.holds Try.pinned (OpenSpec.ofChange linksStartsSpec)

/-- ITS FALSE NEIGHBOUR: 'it returns false'. Refute it at one input. -/
def linksStartsWrong : ChangeSpec := { name := "linksStarts", fn := fun _ => fun
  | [d1, d2, d3, d4] => { results := [.lit (.bool false)], args := [d1, d2, d3, d4] }
  | _ => none }
def LinksStartsWrongFalsely : Prop := linksStartsRow.holds Try.pinned (OpenSpec.ofChange linksStartsWrong)

/-- 'loftblocklaw37.LinksClash': WHATEVER THE INPUT: true; the input reads as it did. -/
def linksClashSpec : ChangeSpec := { name := "linksClash", fn := fun _ => fun
  | [d1, d2, d3] => { results := [.lit (.bool true)], args := [d1, d2, d3] }
  | _ => none }
def linksClashRow : OpenClaim := { program := "ytapjhjpibefooaa", sum := "6a9718ad517e004d217dda8732de0f93f48c55401f238dab5f753f76b0937ec1", func := "loftblock/loftblocklaw37.LinksClash", spec := "linksClash", unfollowed := true, recurses := true, apart := false }
def LinksClashSaid : Prop := linksClashRow.holds Try.pinned (OpenSpec.ofChange linksClashSpec)

/-- ITS FALSE NEIGHBOUR: 'it returns false'. Refute it at one input. -/
def linksClashWrong : ChangeSpec := { name := "linksClash", fn := fun _ => fun
  | [d1, d2, d3] => { results := [.lit (.bool false)], args := [d1, d2, d3] }
  | _ => none }
def LinksClashWrongFalsely : Prop := linksClashRow.holds Try.pinned (OpenSpec.ofChange linksClashWrong)

/-- 'loftblocklaw37.LinksApart': WHATEVER THE INPUT: true; the input reads as it did. -/
def linksApartSpec : ChangeSpec := { name := "linksApart", fn := fun _ => fun
  | [d1, d2, d3] => { results := [.lit (.bool true)], args := [d1, d2, d3] }
  | _ => none }
def linksApartRow : OpenClaim := { program := "ytapjhjpibefooaa", sum := "6a9718ad517e004d217dda8732de0f93f48c55401f238dab5f753f76b0937ec1", func := "loftblock/loftblocklaw37.LinksApart", spec := "linksApart", unfollowed := true, recurses := true, apart := false }
def LinksApartSaid : Prop := linksApartRow.holds Try.pinned (OpenSpec.ofChange linksApartSpec)

/-- ITS FALSE NEIGHBOUR: 'it returns false'. Refute it at one input. -/
def linksApartWrong : ChangeSpec := { name := "linksApart", fn := fun _ => fun
  | [d1, d2, d3] => { results := [.lit (.bool false)], args := [d1, d2, d3] }
  | _ => none }
def LinksApartWrongFalsely : Prop := linksApartRow.holds Try.pinned (OpenSpec.ofChange linksApartWrong)

/-- 'loftblocklaw37.LinksLater': WHATEVER THE INPUT: true; the input reads as it did. -/
def linksLaterSpec : ChangeSpec := { name := "linksLater", fn := fun _ => fun
  | [d1, d2, d3, d4, d5, d6] => { results := [.lit (.bool true)], args := [d1, d2, d3, d4, d5, d6] }
  | _ => none }
def linksLaterRow : OpenClaim := { program := "ytapjhjpibefooaa", sum := "6a9718ad517e004d217dda8732de0f93f48c55401f238dab5f753f76b0937ec1", func := "loftblock/loftblocklaw37.LinksLater", spec := "linksLater", unfollowed := true, recurses := true, apart := false }
def LinksLaterSaid : Prop := linksLaterRow.holds Try.pinned (OpenSpec.ofChange linksLaterSpec)

/-- ITS FALSE NEIGHBOUR: 'it returns false'. Refute it at one input. -/
def linksLaterWrong : ChangeSpec := { name := "linksLater", fn := fun _ => fun
  | [d1, d2, d3, d4, d5, d6] => { results := [.lit (.bool false)], args := [d1, d2, d3, d4, d5, d6] }
  | _ => none }
def LinksLaterWrongFalsely : Prop := linksLaterRow.holds Try.pinned (OpenSpec.ofChange linksLaterWrong)

/-- 'loftblocklaw37.LinksChains': WHATEVER THE INPUT: true; the input reads as it did. -/
def linksChainsSpec : ChangeSpec := { name := "linksChains", fn := fun _ => fun
  | [d1, d2, d3, d4] => { results := [.lit (.bool true)], args := [d1, d2, d3, d4] }
  | _ => none }
def linksChainsRow : OpenClaim := { program := "ytapjhjpibefooaa", sum := "6a9718ad517e004d217dda8732de0f93f48c55401f238dab5f753f76b0937ec1", func := "loftblock/loftblocklaw37.LinksChains", spec := "linksChains", unfollowed := true, recurses := true, apart := false }
def LinksChainsSaid : Prop := linksChainsRow.holds Try.pinned (OpenSpec.ofChange linksChainsSpec)

/-- ITS FALSE NEIGHBOUR: 'it returns false'. Refute it at one input. -/
def linksChainsWrong : ChangeSpec := { name := "linksChains", fn := fun _ => fun
  | [d1, d2, d3, d4] => { results := [.lit (.bool false)], args := [d1, d2, d3, d4] }
  | _ => none }
def LinksChainsWrongFalsely : Prop := linksChainsRow.holds Try.pinned (OpenSpec.ofChange linksChainsWrong)

/-- 'loftblocklaw37.LinksAfter': WHATEVER THE INPUT: true; the input reads as it did. -/
def linksAfterSpec : ChangeSpec := { name := "linksAfter", fn := fun _ => fun
  | [d] => { results := [.lit (.bool true)], args := [d] }
  | _ => none }
def linksAfterRow : OpenClaim := { program := "ytapjhjpibefooaa", sum := "6a9718ad517e004d217dda8732de0f93f48c55401f238dab5f753f76b0937ec1", func := "loftblock/loftblocklaw37.LinksAfter", spec := "linksAfter", unfollowed := true, recurses := true, apart := false }
def LinksAfterSaid : Prop := linksAfterRow.holds Try.pinned (OpenSpec.ofChange linksAfterSpec)

/-- ITS FALSE NEIGHBOUR: 'it returns false'. Refute it at one input. -/
def linksAfterWrong : ChangeSpec := { name := "linksAfter", fn := fun _ => fun
  | [d] => { results := [.lit (.bool false)], args := [d] }
  | _ => none }
def LinksAfterWrongFalsely : Prop := linksAfterRow.holds Try.pinned (OpenSpec.ofChange linksAfterWrong)

/-- 'loftblocklaw37.LinksOrder': WHATEVER THE INPUT: true; the input reads as it did. -/
def linksOrderSpec : ChangeSpec := { name := "linksOrder", fn := fun _ => fun
  | [d] => { results := [.lit (.bool true)], args := [d] }
  | _ => none }
def linksOrderRow : OpenClaim := { program := "ytapjhjpibefooaa", sum := "6a9718ad517e004d217dda8732de0f93f48c55401f238dab5f753f76b0937ec1", func := "loftblock/loftblocklaw37.LinksOrder", spec := "linksOrder", unfollowed := true, recurses := true, apart := false }
def LinksOrderSaid : Prop := linksOrderRow.holds Try.pinned (OpenSpec.ofChange linksOrderSpec)

/-- ITS FALSE NEIGHBOUR: 'it returns false'. Refute it at one input. -/
def linksOrderWrong : ChangeSpec := { name := "linksOrder", fn := fun _ => fun
  | [d] => { results := [.lit (.bool false)], args := [d] }
  | _ => none }
def LinksOrderWrongFalsely : Prop := linksOrderRow.holds Try.pinned (OpenSpec.ofChange linksOrderWrong)

/- THE SECOND FORM. 'bulk': how many values and letters a reading holds, each counted each time it is reached (what is shared counts as often as it is met; a slice's spare places count too). A statement '..UptoSaid' is the law's where the arguments, and the package variables that the reading takes, are together of bulk at most 1048576: NARROWER than '..Said'. Prove '..Said' where nothing that the law and all that it calls make is longer than what came in: it says more and counts as full. Else prove '..UptoSaid'. A law counts once. -/
mutual
def uptoBulk {H : Type} : DataW H → Nat
  | .lit (.string bytes) => bytes.length + 1
  | .lit _ => 1
  | .nil => 1
  | .ptr d => uptoBulk d + 1
  | .slice elems spare => uptoBulkAll elems + uptoBulkAll spare + 1
  | .agg parts => uptoBulkAll parts + 1
  | .iface _ d => uptoBulk d + 1
  | .map entries => uptoBulkEntries entries + 1
  | .held _ => 1
def uptoBulkAll {H : Type} : List (DataW H) → Nat
  | [] => 0
  | d :: r => uptoBulk d + uptoBulkAll r
def uptoBulkEntries {H : Type} : List (Lit × DataW H) → Nat
  | [] => 0
  | x :: r => uptoBulkEntry x + uptoBulkEntries r
def uptoBulkEntry {H : Type} : Lit × DataW H → Nat
  | (.string bytes, d) => bytes.length + uptoBulk d + 1
  | (_, d) => uptoBulk d + 1
 end
def uptoSmall : (H : Type) → List (DataW H) → Bool := fun _ ds => decide (uptoBulkAll ds ≤ 1048576)
def OpenSpec.upto (s : _root_.Go.ChangeSpec) : _root_.Go.OpenSpec := { _root_.Go.OpenSpec.ofChange s with cond := some uptoSmall }

/-- 'loftblocklaw37.LinksStarts', WHERE WHAT IT READS IS OF BULK AT MOST 1048576: true; the input reads as it did. -/
def linksStartsUptoRow : OpenClaim := { program := "ytapjhjpibefooaa", sum := "6a9718ad517e004d217dda8732de0f93f48c55401f238dab5f753f76b0937ec1", func := "loftblock/loftblocklaw37.LinksStarts", spec := "linksStarts", unfollowed := true, recurses := true, apart := false, narrowed := true }
def LinksStartsUptoSaid : Prop := linksStartsUptoRow.holds Try.pinned (OpenSpec.upto linksStartsSpec)

/-- 'loftblocklaw37.LinksClash', WHERE WHAT IT READS IS OF BULK AT MOST 1048576: true; the input reads as it did. -/
def linksClashUptoRow : OpenClaim := { program := "ytapjhjpibefooaa", sum := "6a9718ad517e004d217dda8732de0f93f48c55401f238dab5f753f76b0937ec1", func := "loftblock/loftblocklaw37.LinksClash", spec := "linksClash", unfollowed := true, recurses := true, apart := false, narrowed := true }
def LinksClashUptoSaid : Prop := linksClashUptoRow.holds Try.pinned (OpenSpec.upto linksClashSpec)

/-- 'loftblocklaw37.LinksApart', WHERE WHAT IT READS IS OF BULK AT MOST 1048576: true; the input reads as it did. -/
def linksApartUptoRow : OpenClaim := { program := "ytapjhjpibefooaa", sum := "6a9718ad517e004d217dda8732de0f93f48c55401f238dab5f753f76b0937ec1", func := "loftblock/loftblocklaw37.LinksApart", spec := "linksApart", unfollowed := true, recurses := true, apart := false, narrowed := true }
def LinksApartUptoSaid : Prop := linksApartUptoRow.holds Try.pinned (OpenSpec.upto linksApartSpec)

/-- 'loftblocklaw37.LinksLater', WHERE WHAT IT READS IS OF BULK AT MOST 1048576: true; the input reads as it did. -/
def linksLaterUptoRow : OpenClaim := { program := "ytapjhjpibefooaa", sum := "6a9718ad517e004d217dda8732de0f93f48c55401f238dab5f753f76b0937ec1", func := "loftblock/loftblocklaw37.LinksLater", spec := "linksLater", unfollowed := true, recurses := true, apart := false, narrowed := true }
def LinksLaterUptoSaid : Prop := linksLaterUptoRow.holds Try.pinned (OpenSpec.upto linksLaterSpec)

/-- 'loftblocklaw37.LinksChains', WHERE WHAT IT READS IS OF BULK AT MOST 1048576: true; the input reads as it did. -/
def linksChainsUptoRow : OpenClaim := { program := "ytapjhjpibefooaa", sum := "6a9718ad517e004d217dda8732de0f93f48c55401f238dab5f753f76b0937ec1", func := "loftblock/loftblocklaw37.LinksChains", spec := "linksChains", unfollowed := true, recurses := true, apart := false, narrowed := true }
def LinksChainsUptoSaid : Prop := linksChainsUptoRow.holds Try.pinned (OpenSpec.upto linksChainsSpec)

/-- 'loftblocklaw37.LinksAfter', WHERE WHAT IT READS IS OF BULK AT MOST 1048576: true; the input reads as it did. -/
def linksAfterUptoRow : OpenClaim := { program := "ytapjhjpibefooaa", sum := "6a9718ad517e004d217dda8732de0f93f48c55401f238dab5f753f76b0937ec1", func := "loftblock/loftblocklaw37.LinksAfter", spec := "linksAfter", unfollowed := true, recurses := true, apart := false, narrowed := true }
def LinksAfterUptoSaid : Prop := linksAfterUptoRow.holds Try.pinned (OpenSpec.upto linksAfterSpec)

/-- 'loftblocklaw37.LinksOrder', WHERE WHAT IT READS IS OF BULK AT MOST 1048576: true; the input reads as it did. -/
def linksOrderUptoRow : OpenClaim := { program := "ytapjhjpibefooaa", sum := "6a9718ad517e004d217dda8732de0f93f48c55401f238dab5f753f76b0937ec1", func := "loftblock/loftblocklaw37.LinksOrder", spec := "linksOrder", unfollowed := true, recurses := true, apart := false, narrowed := true }
def LinksOrderUptoSaid : Prop := linksOrderUptoRow.holds Try.pinned (OpenSpec.upto linksOrderSpec)

end Rows
end Go.Proofs.Ytapjhjpibefooaa
