/-
  PLAIN LAW over any program: a call that writes one old cell (the error that sums keep), and else only blocks of its own.
-/
import Derived.WalkKit
import Derived.Below
import Derived.Laws.OwnMore
import Derived.Deep.Draws
namespace Go.Proofs.Ytlgpolfbilkmbaa
open Go.RowKit
structure Sm (b : Nat) (e : Int) (w w' : World) : Prop where
  os : w'.os = w.os
  tape : w'.tape = w.tape
  output : w'.output = w.output
  size : w.heap.size ≤ w'.heap.size
  block : ∀ k, k < w.heap.size → k ≠ b → w'.heap[k]? = w.heap[k]?
  cell : w'.cell? ⟨b, 0, none⟩ = some (.int .i64 e)
  free : w'.frozen? ⟨b, 0, none⟩ = false
theorem Sm.of {b : Nat} {e : Int} {w w' : World} (h : Below w.heap.size w w') (hc : w.cell? ⟨b, 0, none⟩ = some (.int .i64 e)) (hf : w.frozen? ⟨b, 0, none⟩ = false) : Sm b e w w' := by
  have hb : b < w.heap.size := World.block_lt_of_cell? _ _ hc
  exact ⟨h.os, h.tape, h.output, h.size, fun k hk _ => h.block k hk, (h.cell (p := ⟨b, 0, none⟩) hb).trans hc, (h.frozen (p := ⟨b, 0, none⟩) hb).trans hf⟩
theorem Sm.refl {b : Nat} {e : Int} {w : World} (hc : w.cell? ⟨b, 0, none⟩ = some (.int .i64 e)) (hf : w.frozen? ⟨b, 0, none⟩ = false) : Sm b e w w := Sm.of (Below.refl _ _) hc hf
theorem Sm.trans {b : Nat} {e e' : Int} {w w1 w2 : World} (h : Sm b e w w1) (k : Sm b e' w1 w2) : Sm b e' w w2 :=
  ⟨k.os.trans h.os, k.tape.trans h.tape, k.output.trans h.output, Nat.le_trans h.size k.size, fun i hi hne => (k.block i (Nat.lt_of_lt_of_le hi h.size) hne).trans (h.block i hi hne), k.cell, k.free⟩
theorem Sm.lt {b : Nat} {e : Int} {w w' : World} (h : Sm b e w w') : b < w'.heap.size := World.block_lt_of_cell? _ _ h.cell
/-- Blocks of the call's own behind it. -/
theorem Sm.then {b : Nat} {e : Int} {w w1 w2 : World} (h : Sm b e w w1) (k : Below w1.heap.size w1 w2) : Sm b e w w2 := h.trans (Sm.of k h.cell h.free)
theorem Sm.below {b n : Nat} {e : Int} {w w' : World} (h : Sm b e w w') (hn : n ≤ b) (hw : n ≤ w.heap.size) : Below n w w' :=
  ⟨h.os, h.tape, h.output, h.size, fun k hk => h.block k (by omega) (by omega)⟩
theorem Sm.other {b : Nat} {e : Int} {w w' : World} (h : Sm b e w w') {p : Addr} (hp : p.block < w.heap.size) (hne : p.block ≠ b) : w'.cell? p = w.cell? p := World.cell?_of_block (w := w) (h.block p.block hp hne)
theorem Sm.otherF {b : Nat} {e : Int} {w w' : World} (h : Sm b e w w') {p : Addr} (hp : p.block < w.heap.size) (hne : p.block ≠ b) : w'.frozen? p = w.frozen? p := World.frozen?_of_block (w := w) (h.block p.block hp hne)
theorem Sm.set {b : Nat} {e : Int} {w : World} (e' : Int) (hc : w.cell? ⟨b, 0, none⟩ = some (.int .i64 e)) (hf : w.frozen? ⟨b, 0, none⟩ = false) : Sm b e' w (w.setCell ⟨b, 0, none⟩ (.int .i64 e')) :=
  ⟨rfl, rfl, rfl, by simp [World.setCell], fun k _ hne => Below.heap_setCell _ _ _ _ hne, World.cell?_setCell_same _ _ _ hc, by simpa using hf⟩
/-- From below: what was made before it. -/
theorem Sm.from {b : Nat} {e : Int} {w w1 w2 : World} (h : Below w.heap.size w w1) (_ : b < w.heap.size) (k : Sm b e w1 w2) : Sm b e w w2 :=
  ⟨k.os.trans h.os, k.tape.trans h.tape, k.output.trans h.output, Nat.le_trans h.size k.size, fun i hi hne => (k.block i (Nat.lt_of_lt_of_le hi h.size) hne).trans (h.block i hi), k.cell, k.free⟩
theorem Sm.drew {b : Nat} {e : Int} {w w' : World} (h : Sm b e w w') : Sm b e w w'.drew := ⟨h.os, h.tape, h.output, h.size, h.block, h.cell, h.free⟩
theorem Sm.setCell {b : Nat} {e : Int} {w w' : World} (h : Sm b e w w') {p : Addr} (hp : w.heap.size ≤ p.block) (hb : b < w.heap.size) (u : Value) : Sm b e w (w'.setCell p u) :=
  ⟨h.os, h.tape, h.output, by have := h.size; simp [World.setCell]; omega, fun k hk hne => (Below.heap_setCell _ _ _ _ (by omega)).trans (h.block k hk hne), (World.cell?_setCell_other _ _ _ _ (fun x => by have := congrArg Addr.block x; simp at this; omega)).trans h.cell, by simpa using h.free⟩
theorem Sm.alloc {b : Nat} {e : Int} {w w' : World} (h : Sm b e w w') (o : Obj) : Sm b e w (w'.alloc o) := h.then ((Below.refl _ _).alloc (Nat.le_refl _) o)
end Go.Proofs.Ytlgpolfbilkmbaa
