/-
  PLAIN LAWS over any program: a block of two integers (a fraction) of the call's own.
-/
import Derived.Test.YtlgpolfbilkmbaaRat4
import Derived.Test.YtlgpolfbilkmbaaSm
namespace Go.Proofs.Ytlgpolfbilkmbaa
open Go.RowKit Go.Shelf
def FI (w : World) (B : Nat) (h l : Int) : Prop := w.cell? ⟨B, 0, none⟩ = some (.int .i64 h) ∧ w.cell? ⟨B, 1, none⟩ = some (.int .i64 l) ∧ w.frozen? ⟨B, 0, none⟩ = false ∧ w.frozen? ⟨B, 1, none⟩ = false ∧ B < w.heap.size
theorem FI.carry {W w : World} {B : Nat} {x y : Int} (f : FI W B x y) (h : Below W.heap.size W w) : FI w B x y :=
  ⟨(h.cell (p := ⟨B, 0, none⟩) f.2.2.2.2).trans f.1, (h.cell (p := ⟨B, 1, none⟩) f.2.2.2.2).trans f.2.1, (h.frozen (p := ⟨B, 0, none⟩) f.2.2.2.2).trans f.2.2.1, (h.frozen (p := ⟨B, 1, none⟩) f.2.2.2.2).trans f.2.2.2.1, Nat.lt_of_lt_of_le f.2.2.2.2 h.size⟩
theorem FI.sm {W w : World} {B b : Nat} {x y e : Int} (f : FI W B x y) (h : Sm b e W w) (hne : B ≠ b) : FI w B x y :=
  ⟨(h.other (p := ⟨B, 0, none⟩) f.2.2.2.2 hne).trans f.1, (h.other (p := ⟨B, 1, none⟩) f.2.2.2.2 hne).trans f.2.1, (h.otherF (p := ⟨B, 0, none⟩) f.2.2.2.2 hne).trans f.2.2.1, (h.otherF (p := ⟨B, 1, none⟩) f.2.2.2.2 hne).trans f.2.2.2.1, Nat.lt_of_lt_of_le f.2.2.2.2 h.size⟩
theorem FI.set {w : World} {B : Nat} {x y : Int} (f : FI w B x y) (h l : Int) : FI ((w.setCell ⟨B, 0, none⟩ (.int .i64 h)).setCell ⟨B, 1, none⟩ (.int .i64 l)) B h l := by
  obtain ⟨d0, d1⟩ := two_cells (v0 := .int .i64 h) (v1 := .int .i64 l) f.1 f.2.1
  exact ⟨d0, d1, by simpa using f.2.2.1, by simpa using f.2.2.2.1, by simpa using f.2.2.2.2⟩
theorem FI.other {w : World} {B C : Nat} {x y : Int} (f : FI w C x y) (hne : C ≠ B) (u v : Value) : FI ((w.setCell ⟨B, 0, none⟩ u).setCell ⟨B, 1, none⟩ v) C x y :=
  ⟨(two_other hne _ _ _).trans f.1, (two_other hne _ _ _).trans f.2.1, by simpa using f.2.2.1, by simpa using f.2.2.2.1, by simpa using f.2.2.2.2⟩
theorem FI.new (w : World) (t : TypeId) : FI (w.alloc (.cells #[.int .i64 0, .int .i64 0] t)) w.heap.size 0 0 := ⟨by simp, by simp, by simp, by simp, by simp⟩
theorem FI.put (w : World) (x y : Int) (t : TypeId) : FI (w.alloc (.cells #[.int .i64 x, .int .i64 y] t)) w.heap.size x y := ⟨by simp, by simp, by simp, by simp, by simp⟩
end Go.Proofs.Ytlgpolfbilkmbaa
