/-
  PLAIN LAWS over any program: a block of two words of the call's own.
-/
import Derived.Test.YtebofaenlhhkaaaGreatF6
namespace Go.Proofs.YtebofaenlhhkaaaGreat
set_option maxRecDepth 100000
set_option maxHeartbeats 80000000
section
open Go.RowKit Go.Shelf
def FC (w : World) (B : Nat) (h l : Int) : Prop := w.cell? ⟨B, 0, none⟩ = some (.int .u64 h) ∧ w.cell? ⟨B, 1, none⟩ = some (.int .u64 l) ∧ w.frozen? ⟨B, 0, none⟩ = false ∧ w.frozen? ⟨B, 1, none⟩ = false ∧ B < w.heap.size
theorem FC.carry {W w : World} {B : Nat} {x y : Int} (f : FC W B x y) (h : Below W.heap.size W w) : FC w B x y :=
 ⟨(h.cell (p := ⟨B, 0, none⟩) f.2.2.2.2).trans f.1, (h.cell (p := ⟨B, 1, none⟩) f.2.2.2.2).trans f.2.1, (h.frozen (p := ⟨B, 0, none⟩) f.2.2.2.2).trans f.2.2.1, (h.frozen (p := ⟨B, 1, none⟩) f.2.2.2.2).trans f.2.2.2.1, Nat.lt_of_lt_of_le f.2.2.2.2 h.size⟩
theorem FC.set {w : World} {B : Nat} {x y : Int} (f : FC w B x y) (h l : Int) : FC ((w.setCell ⟨B, 0, none⟩ (.int .u64 h)).setCell ⟨B, 1, none⟩ (.int .u64 l)) B h l := by
 obtain ⟨d0, d1⟩ := two_cells (v0 := .int .u64 h) (v1 := .int .u64 l) f.1 f.2.1;exact ⟨d0, d1, by simpa using f.2.2.1, by simpa using f.2.2.2.1, by simpa using f.2.2.2.2⟩
theorem FC.other {w : World} {B C : Nat} {x y : Int} (f : FC w C x y) (hne : C ≠ B) (h l : Int) : FC ((w.setCell ⟨B, 0, none⟩ (.int .u64 h)).setCell ⟨B, 1, none⟩ (.int .u64 l)) C x y :=
 ⟨(two_other hne _ _ _).trans f.1, (two_other hne _ _ _).trans f.2.1, by simpa using f.2.2.1, by simpa using f.2.2.2.1, by simpa using f.2.2.2.2⟩
theorem FC.set1 {w : World} {B : Nat} {x y : Int} (f : FC w B x y) (l : Int) : FC (w.setCell ⟨B, 1, none⟩ (.int .u64 l)) B x l :=
 ⟨(World.cell?_setCell_other _ _ _ _ (fun x => absurd (congrArg Addr.off x) (by simp))).trans f.1, World.cell?_setCell_same _ _ _ f.2.1, by simpa using f.2.2.1, by simpa using f.2.2.2.1, by simpa using f.2.2.2.2⟩
theorem FC.new (w : World) (t : TypeId) : FC (w.alloc (.cells #[.int .u64 0, .int .u64 0] t)) w.heap.size 0 0 := ⟨by simp, by simp, by simp, by simp, by simp⟩
end
end Go.Proofs.YtebofaenlhhkaaaGreat
