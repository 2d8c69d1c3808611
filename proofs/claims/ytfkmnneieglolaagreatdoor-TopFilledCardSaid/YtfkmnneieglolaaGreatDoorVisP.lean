/-
  THE STATE of the search for the first choice: the cells of its variables, the row of the choice, the best one.
-/
import Derived.Test.YtfkmnneieglolaaGreatDoorSearch
import Derived.Laws.IdiomCopy
namespace Go.Proofs.YtfkmnneieglolaaGreatDoor
open Go.RowKit Go.Shelf
abbrev St := Option (List Int × Int)
def mostS : St → Int
  | none => 0
  | some (_, m) => m
def BestV (B : Nat) (w : World) (v : Value) : St → Prop
  | none => v = .slice none 0 0
  | some (c, _) => w.ownsRow (B + 8) 3 1 v c.length (nflat c)
def visV (B : Nat) : Value := .func (.func 100) #[] #[.pointer (some ⟨B + 5, 0, none⟩), .pointer (some ⟨B + 4, 0, none⟩), .pointer (some ⟨B + 2, 0, none⟩), .pointer (some ⟨B, 0, none⟩), .pointer (some ⟨B + 1, 0, none⟩), .pointer (some ⟨B + 3, 0, none⟩), .pointer (some ⟨B + 6, 0, none⟩)]
structure VisS (B : Nat) (w : World) (Bs : Nat) (low high : Int) (N : Nat) (pre : List Int) (st : St) : Prop where
  size : B + 8 ≤ w.heap.size
  cs : w.cell? ⟨B, 0, none⟩ = some (.pointer (some ⟨Bs, 0, none⟩))
  cl : w.cell? ⟨B + 1, 0, none⟩ = some (.int .i64 low)
  ch : w.cell? ⟨B + 2, 0, none⟩ = some (.int .i64 high)
  cm : w.cell? ⟨B + 4, 0, none⟩ = some (.int .i64 (mostS st))
  cf : w.cell? ⟨B + 5, 0, none⟩ = some (.bool st.isSome)
  cv : w.cell? ⟨B + 6, 0, none⟩ = some (visV B)
  fz : ∀ i, w.frozen? ⟨B + 3, i, none⟩ = false ∧ w.frozen? ⟨B + 4, i, none⟩ = false ∧ w.frozen? ⟨B + 5, i, none⟩ = false ∧ w.frozen? ⟨B + 7, i, none⟩ = false
  best : ∃ v, w.cell? ⟨B + 3, 0, none⟩ = some v ∧ BestV B w v st
  row : ∀ j, j < N → (w.cell? ⟨B + 7, j, none⟩).isSome = true
  pre : ∀ j, j < pre.length → w.cell? ⟨B + 7, j, none⟩ = some (.int .i64 (ig pre j))
theorem BestV.below {B : Nat} {w w' : World} {v : Value} {st : St} (h : BestV B w v st) (hb : Below w.heap.size w w') : BestV B w' v st := by
  cases st with
  | none => exact h
  | some p => exact ownsRow_below h hb
theorem BestV.set {B b o : Nat} {w : World} {v : Value} {st : St} (h : BestV B w v st) (u : Value) (hb : b < B + 8) : BestV B (w.setCell ⟨b, o, none⟩ u) v st := by
  cases st with
  | none => exact h
  | some p => exact ownsRow_setCell_below h (by show b < B + 8; exact hb) u
theorem VisS.grow {B Bs N : Nat} {w w' : World} {low high : Int} {pre : List Int} {st : St} (h : VisS B w Bs low high N pre st) (hb : Below w.heap.size w w') : VisS B w' Bs low high N pre st := by
  have hz := h.size
  have e : ∀ b o, b < B + 8 → w'.cell? ⟨b, o, none⟩ = w.cell? ⟨b, o, none⟩ := fun b o hlt => hb.cell (p := ⟨b, o, none⟩) (by show b < w.heap.size; omega)
  have f : ∀ b o, b < B + 8 → w'.frozen? ⟨b, o, none⟩ = w.frozen? ⟨b, o, none⟩ := fun b o hlt => hb.frozen (p := ⟨b, o, none⟩) (by show b < w.heap.size; omega)
  obtain ⟨v, hv, hv2⟩ := h.best
  exact ⟨Nat.le_trans hz hb.size, (e _ _ (by omega)).trans h.cs, (e _ _ (by omega)).trans h.cl, (e _ _ (by omega)).trans h.ch, (e _ _ (by omega)).trans h.cm, (e _ _ (by omega)).trans h.cf, (e _ _ (by omega)).trans h.cv,
    fun i => ⟨(f _ _ (by omega)).trans (h.fz i).1, (f _ _ (by omega)).trans (h.fz i).2.1, (f _ _ (by omega)).trans (h.fz i).2.2.1, (f _ _ (by omega)).trans (h.fz i).2.2.2⟩,
    ⟨v, (e _ _ (by omega)).trans hv, hv2.below hb⟩, fun j hj => by rw [e _ _ (by omega)]; exact h.row j hj, fun j hj => (e _ _ (by omega)).trans (h.pre j hj)⟩
theorem VisS.drew {B Bs N : Nat} {w : World} {low high : Int} {pre : List Int} {st : St} (h : VisS B w Bs low high N pre st) : VisS B w.drew Bs low high N pre st := h.grow (Below.refl _ _).drew
theorem VisS.alloc {B Bs N : Nat} {w : World} {low high : Int} {pre : List Int} {st : St} (h : VisS B w Bs low high N pre st) (o : Obj) : VisS B (w.alloc o) Bs low high N pre st := h.grow (below_new w o)
theorem isSome_set {w : World} {a p : Addr} {u : Value} (h : (w.cell? a).isSome = true) : ((w.setCell p u).cell? a).isSome = true := by
  obtain ⟨x, hx⟩ := Option.isSome_iff_exists.1 h
  by_cases e : a = p
  · subst e
    rw [World.cell?_setCell_same _ _ _ hx]
    rfl
  · rw [World.cell?_setCell_other _ _ _ _ (fun q => e q.symm), hx]
    rfl
theorem VisS.push {B Bs N : Nat} {w : World} {low high : Int} {pre : List Int} {st : St} (h : VisS B w Bs low high N pre st) (k : Int) (hN : pre.length < N) : VisS B (w.setCell ⟨B + 7, pre.length, none⟩ (.int .i64 k)) Bs low high N (pre ++ [k]) st := by
  have e : ∀ b o, b ≠ B + 7 → (w.setCell ⟨B + 7, pre.length, none⟩ (.int .i64 k)).cell? ⟨b, o, none⟩ = w.cell? ⟨b, o, none⟩ := fun b o hlt => World.cell?_setCell_far _ _ _ _ (by show B + 7 ≠ b; omega)
  have f : ∀ b o, (w.setCell ⟨B + 7, pre.length, none⟩ (.int .i64 k)).frozen? ⟨b, o, none⟩ = w.frozen? ⟨b, o, none⟩ := fun b o => World.frozen?_setCell _ _ _ _
  obtain ⟨v, hv, hv2⟩ := h.best
  obtain ⟨x, hx⟩ := Option.isSome_iff_exists.1 (h.row _ hN)
  refine ⟨by simpa [World.setCell] using h.size, (e _ _ (by omega)).trans h.cs, (e _ _ (by omega)).trans h.cl, (e _ _ (by omega)).trans h.ch, (e _ _ (by omega)).trans h.cm, (e _ _ (by omega)).trans h.cf, (e _ _ (by omega)).trans h.cv,
    fun i => ⟨(f _ _).trans (h.fz i).1, (f _ _).trans (h.fz i).2.1, (f _ _).trans (h.fz i).2.2.1, (f _ _).trans (h.fz i).2.2.2⟩,
    ⟨v, (e _ _ (by omega)).trans hv, hv2.set _ (by omega)⟩, fun j hj => isSome_set (h.row j hj), fun j hj => ?_⟩
  rw [List.length_append, List.length_singleton] at hj
  by_cases q : j = pre.length
  · subst q
    rw [World.cell?_setCell_same _ _ _ hx, ig_new]
  · rw [World.cell?_setCell_other _ _ _ _ (by intro e; injection e with _ e; exact q e.symm), ig_old _ _ _ (by omega)]
    exact h.pre j (by omega)
theorem VisS.pop {B Bs N : Nat} {w : World} {low high : Int} {pre : List Int} {k : Int} {st : St} (h : VisS B w Bs low high N (pre ++ [k]) st) : VisS B w Bs low high N pre st :=
  ⟨h.size, h.cs, h.cl, h.ch, h.cm, h.cf, h.cv, h.fz, h.best, h.row, fun j hj => by
    have := h.pre j (by rw [List.length_append]; omega)
    rwa [ig_old _ _ _ hj] at this⟩
theorem VisS.take {B Bs N : Nat} {w : World} {low high : Int} {pre : List Int} {st : St} {v : Value} (h : VisS B w Bs low high N pre st) (hv : w.ownsRow (B + 8) 3 1 v pre.length (nflat pre)) (n : Int) :
    VisS B (((w.setCell ⟨B + 3, 0, none⟩ v).setCell ⟨B + 4, 0, none⟩ (.int .i64 n)).setCell ⟨B + 5, 0, none⟩ (.bool true)) Bs low high N pre (some (pre, n)) := by
  have e : ∀ b o, b ≠ B + 3 → b ≠ B + 4 → b ≠ B + 5 → (((w.setCell ⟨B + 3, 0, none⟩ v).setCell ⟨B + 4, 0, none⟩ (.int .i64 n)).setCell ⟨B + 5, 0, none⟩ (.bool true)).cell? ⟨b, o, none⟩ = w.cell? ⟨b, o, none⟩ := fun b o h1 h2 h3 =>
    ((World.cell?_setCell_far _ _ _ _ (by show B + 5 ≠ b; omega)).trans (World.cell?_setCell_far _ _ _ _ (by show B + 4 ≠ b; omega))).trans (World.cell?_setCell_far _ _ _ _ (by show B + 3 ≠ b; omega))
  have f : ∀ b o, (((w.setCell ⟨B + 3, 0, none⟩ v).setCell ⟨B + 4, 0, none⟩ (.int .i64 n)).setCell ⟨B + 5, 0, none⟩ (.bool true)).frozen? ⟨b, o, none⟩ = w.frozen? ⟨b, o, none⟩ := fun b o =>
    ((World.frozen?_setCell _ _ _ _).trans (World.frozen?_setCell _ _ _ _)).trans (World.frozen?_setCell _ _ _ _)
  obtain ⟨v0, hv0, _⟩ := h.best
  have d4 : ((w.setCell ⟨B + 3, 0, none⟩ v)).cell? ⟨B + 4, 0, none⟩ = some (.int .i64 (mostS st)) := (World.cell?_setCell_far _ _ _ _ (by show B + 3 ≠ B + 4; omega)).trans h.cm
  have d5 : ((w.setCell ⟨B + 3, 0, none⟩ v).setCell ⟨B + 4, 0, none⟩ (.int .i64 n)).cell? ⟨B + 5, 0, none⟩ = some (.bool st.isSome) := ((World.cell?_setCell_far _ _ _ _ (by show B + 4 ≠ B + 5; omega)).trans (World.cell?_setCell_far _ _ _ _ (by show B + 3 ≠ B + 5; omega))).trans h.cf
  refine ⟨by simpa [World.setCell] using h.size, (e _ _ (by omega) (by omega) (by omega)).trans h.cs, (e _ _ (by omega) (by omega) (by omega)).trans h.cl, (e _ _ (by omega) (by omega) (by omega)).trans h.ch, ?_, ?_, (e _ _ (by omega) (by omega) (by omega)).trans h.cv,
    fun i => ⟨(f _ _).trans (h.fz i).1, (f _ _).trans (h.fz i).2.1, (f _ _).trans (h.fz i).2.2.1, (f _ _).trans (h.fz i).2.2.2⟩,
    ⟨v, ?_, ?_⟩, fun j hj => by rw [e _ _ (by omega) (by omega) (by omega)]; exact h.row j hj, fun j hj => (e _ _ (by omega) (by omega) (by omega)).trans (h.pre j hj)⟩
  · exact (World.cell?_setCell_far _ _ _ _ (by show B + 5 ≠ B + 4; omega)).trans (World.cell?_setCell_same _ _ _ d4)
  · exact World.cell?_setCell_same _ _ _ d5
  · exact ((World.cell?_setCell_far _ _ _ _ (by show B + 5 ≠ B + 3; omega)).trans (World.cell?_setCell_far _ _ _ _ (by show B + 4 ≠ B + 3; omega))).trans (World.cell?_setCell_same _ _ _ hv0)
  · exact ownsRow_setCell_below (ownsRow_setCell_below (ownsRow_setCell_below hv (a := ⟨B + 3, 0, none⟩) (by show B + 3 < B + 8; omega) _) (a := ⟨B + 4, 0, none⟩) (by show B + 4 < B + 8; omega) _) (a := ⟨B + 5, 0, none⟩) (by show B + 5 < B + 8; omega) _
end Go.Proofs.YtfkmnneieglolaaGreatDoor
