/-
  HOW A SET LIES IN MEMORY.
-/
import Derived.Test.YtfkmnneieglolaaGreatDoorBat2
namespace Go.Proofs.YtfkmnneieglolaaGreatDoor
open Go.RowKit Go.Shelf
structure SetIn0 (w : World) (r : SetR) : Prop where
  lines : Nums w.heap.size w r.la r.lines
  items : Items w.heap.size w r.ia r.items
  bricks : Bricks w.heap.size w r.ba r.bricks
  lcap : r.lines.length ≤ r.lc
  icap : r.items.length ≤ r.ic
  bcap : r.bricks.length ≤ r.bc
  lnil : r.la = none → r.lc = 0
  inil : r.ia = none → r.ic = 0
  bnil : r.ba = none → r.bc = 0
structure SetIn (w : World) (r : SetR) : Prop extends SetIn0 w r where
  inames : ∀ x ∈ r.items, x.name.size ≤ 1000
  bnames : ∀ x ∈ r.bricks, x.name.size ≤ 1000
theorem SetIn0.grow {w w' : World} {r : SetR} (h : SetIn0 w r) (hb : Below w.heap.size w w') : SetIn0 w' r :=
  ⟨h.lines.grow hb, h.items.grow hb, h.bricks.grow hb, h.lcap, h.icap, h.bcap, h.lnil, h.inil, h.bnil⟩
theorem SetIn.grow {w w' : World} {r : SetR} (h : SetIn w r) (hb : Below w.heap.size w w') : SetIn w' r :=
  ⟨h.toSetIn0.grow hb, h.inames, h.bnames⟩
def SetAt (w : World) (b : Nat) (r : SetR) : Prop := w.cell? ⟨b, 0, none⟩ = some (.string r.name) ∧ w.cell? ⟨b, 1, none⟩ = some (.int .i64 r.depth) ∧ w.cell? ⟨b, 2, none⟩ = some (.int .i64 r.low) ∧ w.cell? ⟨b, 3, none⟩ = some (.int .i64 r.high) ∧ w.cell? ⟨b, 4, none⟩ = some (.int .i64 r.length) ∧ w.cell? ⟨b, 5, none⟩ = some (.slice r.la r.lines.length r.lc) ∧ w.cell? ⟨b, 6, none⟩ = some (.int .i64 r.pipe) ∧ w.cell? ⟨b, 7, none⟩ = some (.int .i64 r.arbor) ∧ w.cell? ⟨b, 8, none⟩ = some (.int .i64 r.purchase) ∧ w.cell? ⟨b, 9, none⟩ = some (.int .i64 r.most) ∧ w.cell? ⟨b, 10, none⟩ = some (.int .i64 r.brake) ∧ w.cell? ⟨b, 11, none⟩ = some (.slice r.ia r.items.length r.ic) ∧ w.cell? ⟨b, 12, none⟩ = some (.slice r.ba r.bricks.length r.bc)
theorem SetAt.below {w w' : World} {b : Nat} {r : SetR} (h : SetAt w b r) (hb : Below w.heap.size w w') (hlt : b < w.heap.size) : SetAt w' b r :=
  let ⟨a0, a1, a2, a3, a4, a5, a6, a7, a8, a9, a10, a11, a12⟩ := h
  ⟨(hb.cell (p := ⟨b, 0, none⟩) hlt).trans a0, (hb.cell (p := ⟨b, 1, none⟩) hlt).trans a1, (hb.cell (p := ⟨b, 2, none⟩) hlt).trans a2, (hb.cell (p := ⟨b, 3, none⟩) hlt).trans a3, (hb.cell (p := ⟨b, 4, none⟩) hlt).trans a4, (hb.cell (p := ⟨b, 5, none⟩) hlt).trans a5, (hb.cell (p := ⟨b, 6, none⟩) hlt).trans a6, (hb.cell (p := ⟨b, 7, none⟩) hlt).trans a7, (hb.cell (p := ⟨b, 8, none⟩) hlt).trans a8, (hb.cell (p := ⟨b, 9, none⟩) hlt).trans a9, (hb.cell (p := ⟨b, 10, none⟩) hlt).trans a10, (hb.cell (p := ⟨b, 11, none⟩) hlt).trans a11, (hb.cell (p := ⟨b, 12, none⟩) hlt).trans a12⟩
theorem SetAt.new (w : World) (r : SetR) (t : TypeId) : SetAt (w.alloc (.cells #[.string r.name, .int .i64 r.depth, .int .i64 r.low, .int .i64 r.high, .int .i64 r.length, .slice r.la r.lines.length r.lc, .int .i64 r.pipe, .int .i64 r.arbor, .int .i64 r.purchase, .int .i64 r.most, .int .i64 r.brake, .slice r.ia r.items.length r.ic, .slice r.ba r.bricks.length r.bc] t)) w.heap.size r := by
  unfold SetAt
  simp
end Go.Proofs.YtfkmnneieglolaaGreatDoor
