/-
  What the windows tell (layer 26).
-/
import Derived.Test.YtbniclapaigkkaaGreatAwake
namespace Go.Proofs.YtbniclapaigkkaaGreat
open Go.RowKit Go.Shelf
theorem first_some {low high : Int} {L : List BrickR} : (firstP low high L).isSome = true ↔ ∃ x, IsSum L x ∧ low ≤ x ∧ x ≤ high := by
  have h := first_best low high L
  cases hq : firstP low high L with
  | none =>
    rw [hq] at h
    simp only [Option.isSome_none, Bool.false_eq_true, false_iff]
    rintro ⟨x, ⟨c, hc, rfl⟩, h1, h2⟩
    have := h c hc
    unfold winB at this
    rw [decide_eq_true h1, decide_eq_true h2] at this
    cases this
  | some p =>
    obtain ⟨b, m⟩ := p
    rw [hq] at h
    simp only [Option.isSome_some, true_iff]
    have hw := h.2.1
    unfold winB at hw
    simp only [Bool.and_eq_true, decide_eq_true_eq] at hw
    exact ⟨_, ⟨b, h.1, rfl⟩, hw.1, hw.2⟩
theorem listS_len {low high : Int} {L : List BrickR} : (listS (firstP low high L)).length ≤ L.length := by
  have h := first_best low high L
  cases hq : firstP low high L with
  | none => exact Nat.zero_le _
  | some p =>
    obtain ⟨b, m⟩ := p
    rw [hq] at h
    show b.length ≤ _
    rw [isC_len h.1]
    exact Nat.le_refl _
theorem near_is {x : Int} {L : List BrickR} (hb : brickB L = true) (hok : BrickOK L) (h : -1099511627776 ≤ x ∧ x ≤ 1099511627776) : nearC x L = firstP (nearP x L) (nearP x L) L ∧ nearE x L = 0 := by
  unfold nearC nearE winC winE
  rw [if_pos ⟨hb, h⟩, if_pos ⟨hb, Int.le_refl _⟩, if_pos hb, if_pos h, if_pos hb, if_pos (Int.le_refl _), if_pos (first_some.2 ⟨_, (nearP_spec hok).1, Int.le_refl _, Int.le_refl _⟩)]
  exact ⟨rfl, rfl⟩
theorem win_is {low high : Int} {L : List BrickR} (hb : brickB L = true) (h : low ≤ high) : winC low high L = firstP low high L ∧ ((winE low high L = 0 ∧ (firstP low high L).isSome = true) ∨ (winE low high L = 12 ∧ (firstP low high L).isSome = false)) := by
  unfold winC winE
  rw [if_pos ⟨hb, h⟩, if_pos hb, if_pos h]
  refine ⟨rfl, ?_⟩
  cases (firstP low high L).isSome
  · exact Or.inr ⟨rfl, rfl⟩
  · exact Or.inl ⟨rfl, rfl⟩
end Go.Proofs.YtbniclapaigkkaaGreat
