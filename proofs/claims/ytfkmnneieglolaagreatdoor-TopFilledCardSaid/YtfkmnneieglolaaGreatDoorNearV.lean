/-
  THE STATE of the search for the nearest sum, and the closure far (bricks: nearest).
-/
import Derived.Test.YtfkmnneieglolaaGreatDoorWindow
namespace Go.Proofs.YtfkmnneieglolaaGreatDoor
open Go.RowKit Go.Shelf
structure NearS (B : Nat) (w : World) (Bs : Nat) (wt : Int) (st : Option Int) : Prop where
  size : B + 6 ≤ w.heap.size
  cs : w.cell? ⟨B, 0, none⟩ = some (.pointer (some ⟨Bs, 0, none⟩))
  cw : w.cell? ⟨B + 1, 0, none⟩ = some (.int .i64 wt)
  cb : w.cell? ⟨B + 2, 0, none⟩ = some (.int .i64 (st.getD 0))
  cf : w.cell? ⟨B + 3, 0, none⟩ = some (.bool st.isSome)
  ca : w.cell? ⟨B + 4, 0, none⟩ = some (.func (.func 71) #[] #[.pointer (some ⟨B + 1, 0, none⟩)])
  cv : w.cell? ⟨B + 5, 0, none⟩ = some (.func (.func 72) #[] #[.pointer (some ⟨B + 1, 0, none⟩), .pointer (some ⟨B, 0, none⟩), .pointer (some ⟨B + 3, 0, none⟩), .pointer (some ⟨B + 4, 0, none⟩), .pointer (some ⟨B + 2, 0, none⟩), .pointer (some ⟨B + 5, 0, none⟩)])
  fb : w.frozen? ⟨B + 2, 0, none⟩ = false
  ff : w.frozen? ⟨B + 3, 0, none⟩ = false
theorem NearS.grow {B Bs : Nat} {w w' : World} {wt : Int} {st : Option Int} (h : NearS B w Bs wt st) (hb : Below w.heap.size w w') : NearS B w' Bs wt st := by
  have hz := h.size
  have e : ∀ b o, b < B + 6 → w'.cell? ⟨b, o, none⟩ = w.cell? ⟨b, o, none⟩ := fun b o hlt => hb.cell (p := ⟨b, o, none⟩) (by show b < w.heap.size; omega)
  have f : ∀ b o, b < B + 6 → w'.frozen? ⟨b, o, none⟩ = w.frozen? ⟨b, o, none⟩ := fun b o hlt => hb.frozen (p := ⟨b, o, none⟩) (by show b < w.heap.size; omega)
  exact ⟨Nat.le_trans hz hb.size, (e _ _ (by omega)).trans h.cs, (e _ _ (by omega)).trans h.cw, (e _ _ (by omega)).trans h.cb, (e _ _ (by omega)).trans h.cf, (e _ _ (by omega)).trans h.ca, (e _ _ (by omega)).trans h.cv, (f _ _ (by omega)).trans h.fb, (f _ _ (by omega)).trans h.ff⟩
theorem NearS.drew {B Bs : Nat} {w : World} {wt : Int} {st : Option Int} (h : NearS B w Bs wt st) : NearS B w.drew Bs wt st := h.grow (Below.refl _ _).drew
theorem NearS.take {B Bs : Nat} {w : World} {wt : Int} {st : Option Int} (h : NearS B w Bs wt st) (s : Int) : NearS B ((w.setCell ⟨B + 2, 0, none⟩ (.int .i64 s)).setCell ⟨B + 3, 0, none⟩ (.bool true)) Bs wt (some s) := by
  have e : ∀ b o, b ≠ B + 2 → b ≠ B + 3 → ((w.setCell ⟨B + 2, 0, none⟩ (.int .i64 s)).setCell ⟨B + 3, 0, none⟩ (.bool true)).cell? ⟨b, o, none⟩ = w.cell? ⟨b, o, none⟩ := fun b o h1 h2 =>
    (World.cell?_setCell_far _ _ _ _ (by show B + 3 ≠ b; omega)).trans (World.cell?_setCell_far _ _ _ _ (by show B + 2 ≠ b; omega))
  have f : ∀ b o, ((w.setCell ⟨B + 2, 0, none⟩ (.int .i64 s)).setCell ⟨B + 3, 0, none⟩ (.bool true)).frozen? ⟨b, o, none⟩ = w.frozen? ⟨b, o, none⟩ := fun b o => (World.frozen?_setCell _ _ _ _).trans (World.frozen?_setCell _ _ _ _)
  have d3 : (w.setCell ⟨B + 2, 0, none⟩ (.int .i64 s)).cell? ⟨B + 3, 0, none⟩ = some (.bool st.isSome) := (World.cell?_setCell_far _ _ _ _ (by show B + 2 ≠ B + 3; omega)).trans h.cf
  exact ⟨by simpa [World.setCell] using h.size, (e _ _ (by omega) (by omega)).trans h.cs, (e _ _ (by omega) (by omega)).trans h.cw,
    (World.cell?_setCell_far _ _ _ _ (by show B + 3 ≠ B + 2; omega)).trans (World.cell?_setCell_same _ _ _ h.cb), World.cell?_setCell_same _ _ _ d3, (e _ _ (by omega) (by omega)).trans h.ca, (e _ _ (by omega) (by omega)).trans h.cv, (f _ _).trans h.fb, (f _ _).trans h.ff⟩
set_option maxHeartbeats 4000000 in
theorem farN_any (bx : Nat) (wt n : Int) (w : World) (h1 : -1125899906842624 ≤ wt ∧ wt ≤ 1125899906842624) (h2 : -1125899906842624 ≤ n ∧ n ≤ 1125899906842624) (hc : w.cell? ⟨bx, 0, none⟩ = some (.int .i64 wt)) :
    Calls Tryz.prog 71 #[.int .i64 n, .pointer (some ⟨bx, 0, none⟩)] w fun e w' => e = .returned (.int .i64 (farN wt n)) ∧ w = w' := by
  have s1 : IntKind.i64.wrap (n - wt) = n - wt := IntWalk.i64_in _ (by omega)
  have s2 : IntKind.i64.wrap (wt - n) = wt - n := IntWalk.i64_in _ (by omega)
  go_enter Tryz.func71, Tryz.ntmps71
  by_cases q : n < wt
  · have HF : Hid (farN wt n = wt - n) := Lib.hid (if_pos q)
    have q2 : n - wt < wt - n := by omega
    have q3 : ¬ wt - n < n - wt := by omega
    rw [HF.out]
    go_wp2_with fail
    go_ret
    exact ⟨rfl, rfl⟩
  · have HF : Hid (farN wt n = n - wt) := Lib.hid (if_neg q)
    have q2 : ¬ n - wt < wt - n := by omega
    rw [HF.out]
    go_wp2_with fail
    go_ret
    exact ⟨rfl, rfl⟩
end Go.Proofs.YtfkmnneieglolaaGreatDoor
