/-
  PLAIN LAWS over any program: a row of the call's own over what leaves old blocks alone.
-/
import Derived.WalkKit
import Derived.Below
import Derived.Laws.OwnMore
import Derived.Deep.Draws
namespace Go.Proofs.YtfkmnneieglolaaGreatDoor
open Go.RowKit
theorem ownsRow_below {w w' : World} {base size n : Nat} {e : TypeId} {v : Value} {xs : List Value} (h : w.ownsRow base e size v n xs) (hB : Below w.heap.size w w') : w'.ownsRow base e size v n xs := by
  refine ⟨h.1, ?_⟩
  rcases h.2 with hn | ⟨g, cap, cur, rfl, hb, hg, rest⟩
  · exact .inl hn
  · exact .inr ⟨g, cap, cur, rfl, hb, (hB.block g (Array.getElem?_eq_some_iff.1 hg).1).trans hg, rest⟩
theorem ownsRow_base {w : World} {base base' size n : Nat} {e : TypeId} {v : Value} {xs : List Value} (h : w.ownsRow base e size v n xs) (hb : base' ≤ base) : w.ownsRow base' e size v n xs := by
  refine ⟨h.1, ?_⟩
  rcases h.2 with hn | ⟨g, cap, cur, rfl, h1, rest⟩
  · exact .inl hn
  · exact .inr ⟨g, cap, cur, rfl, by omega, rest⟩
theorem grown_own {base n₀ size n : Nat} {w w' wa : World} {e : TypeId} {v : Value} {xs : List Value} (h : w.ownsRow base e size v n xs) (hg : w.grownBy w' v.ownBlock) (hB : Below n₀ wa w) (hn : n₀ ≤ w.heap.size) (hb : n₀ ≤ base) : Below n₀ wa w' :=
  hB.grown hg hn fun k hk => Nat.le_trans hb (h.lt k hk).1
theorem new_set (w : World) (p : Addr) (u v : Value) (t : TypeId) : ((w.setCell p u).alloc (.cells #[v] t)).cell? ⟨w.heap.size, 0, none⟩ = some v := by
  have e : (w.setCell p u).heap.size = w.heap.size := by simp [World.setCell]
  rw [cell_of_row _ w.heap.size 0 #[v] t (0, 0) (by rw [← e]; exact heap_alloc_new _ _)]
  rfl
theorem new_drew2 (w : World) (n : Nat) (v u : Value) (t : TypeId) : ((w.drewN n).alloc (.cells #[v, u] t)).cell? ⟨w.heap.size, 0, none⟩ = some v ∧ ((w.drewN n).alloc (.cells #[v, u] t)).cell? ⟨w.heap.size, 1, none⟩ = some u :=
  ⟨(cell_of_row _ w.heap.size 0 #[v, u] t (0, 0) (heap_alloc_new (w.drewN n) _)).trans rfl, (cell_of_row _ w.heap.size 1 #[v, u] t (0, 0) (heap_alloc_new (w.drewN n) _)).trans rfl⟩
theorem own_drewN {w : World} {base size n : Nat} {e : TypeId} {v : Value} {xs : List Value} (h : w.ownsRow base e size v n xs) (k : Nat) : (w.drewN k).ownsRow base e size v n xs := h
end Go.Proofs.YtfkmnneieglolaaGreatDoor
