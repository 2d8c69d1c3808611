/-
  What the windows tell (layer 26).
-/
import Derived.Test.YtgijekinlkpbkaaLawSums
namespace Go.Proofs.Ytgijekinlkpbkaa
open Go.RowKit Go.Shelf
theorem listS_len {low high : Int} {L : List BrickR} : (listS (firstP low high L)).length ≤ L.length := by
  have h := first_best low high L
  cases hq : firstP low high L with
  | none => exact Nat.zero_le _
  | some p =>
    obtain ⟨b, m⟩ := p
    rw [hq] at h
    show b.length ≤ _
    rw [isC_len h.1]
    exact Nat.le_refl _
theorem near_is {x : Int} {L : List BrickR} (hb : brickB L = true) (hok : BrickOK L) (h : -1099511627776 ≤ x ∧ x ≤ 1099511627776) : nearC x L = firstP (nearP x L) (nearP x L) L ∧ nearE x L = 0 := by
  unfold nearC nearE winC winE
  rw [if_pos ⟨hb, h⟩, if_pos ⟨hb, Int.le_refl _⟩, if_pos hb, if_pos h, if_pos hb, if_pos (Int.le_refl _), if_pos (first_some.2 ⟨_, (nearP_spec hok).1, Int.le_refl _, Int.le_refl _⟩)]
  exact ⟨rfl, rfl⟩
theorem win_is {low high : Int} {L : List BrickR} (hb : brickB L = true) (h : low ≤ high) : winC low high L = firstP low high L ∧ ((winE low high L = 0 ∧ (firstP low high L).isSome = true) ∨ (winE low high L = 12 ∧ (firstP low high L).isSome = false)) := by
  unfold winC winE
  rw [if_pos ⟨hb, h⟩, if_pos hb, if_pos h]
  refine ⟨rfl, ?_⟩
  cases (firstP low high L).isSome
  · exact Or.inr ⟨rfl, rfl⟩
  · exact Or.inl ⟨rfl, rfl⟩
end Go.Proofs.Ytgijekinlkpbkaa
