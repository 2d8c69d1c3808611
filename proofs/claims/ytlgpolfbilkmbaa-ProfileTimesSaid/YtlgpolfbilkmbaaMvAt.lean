/-
  HOW a move lies in a block.
-/
import Derived.Test.YtlgpolfbilkmbaaTop
namespace Go.Proofs.Ytlgpolfbilkmbaa
open Go.RowKit Go.Shelf

def MvAt (w : World) (B : Nat) (m : Mv) : Prop := w.cell? ⟨B, 0, none⟩ = some (.string m.name) ∧ w.cell? ⟨B, 1, none⟩ = some (.int .i64 m.to) ∧ w.cell? ⟨B, 2, none⟩ = some (.int .i64 m.spd) ∧ w.cell? ⟨B, 3, none⟩ = some (.int .i64 m.rise) ∧ w.cell? ⟨B, 4, none⟩ = some (.int .i64 m.fall)
theorem MvAt.carry {W w : World} {B : Nat} {m : Mv} (c : MvAt W B m) (h : Below W.heap.size W w) : MvAt w B m := by
  have hz : B < W.heap.size := World.block_lt_of_cell? _ _ c.1
  exact ⟨(h.cell (p := ⟨B, 0, none⟩) hz).trans c.1, (h.cell (p := ⟨B, 1, none⟩) hz).trans c.2.1, (h.cell (p := ⟨B, 2, none⟩) hz).trans c.2.2.1, (h.cell (p := ⟨B, 3, none⟩) hz).trans c.2.2.2.1, (h.cell (p := ⟨B, 4, none⟩) hz).trans c.2.2.2.2⟩
theorem MvAt.new (W : World) (m : Mv) (t : TypeId) : MvAt (W.alloc (.cells #[.string m.name, .int .i64 m.to, .int .i64 m.spd, .int .i64 m.rise, .int .i64 m.fall] t)) W.heap.size m := ⟨by simp, by simp, by simp, by simp, by simp⟩

end Go.Proofs.Ytlgpolfbilkmbaa
