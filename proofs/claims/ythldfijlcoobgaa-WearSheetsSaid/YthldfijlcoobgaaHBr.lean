/-
  THE WALKS of arbor.Valid and of the reference's Bricks (21), Right and Count (26): which bricks are right.
-/
import Derived.Test.YthldfijlcoobgaaHApp
import Derived.Test.YthldfijlcoobgaaDec
import Derived.BigQuiet
import Derived.IntWalk
namespace Go.Proofs.Ythldfijlcoobgaa
open Go.RowKit Go.Shelf
theorem str_eq (a b : ByteArray) : (a.toList == b.toList) = decide (a = b) := by
  rw [Bool.eq_iff_iff, beq_iff_eq, decide_eq_true_eq, ByteArray.toList_eq, ByteArray.toList_eq]
  constructor
  · intro h
    obtain ⟨⟨x⟩⟩ := a
    obtain ⟨⟨y⟩⟩ := b
    simpa using h
  · exact fun h => by rw [h]
def sameN (s : ByteArray) (r : BrickR) : Bool := decide (r.name = s)
def brick1 (b : BrickR) : Bool := isNameB b.name && (decide (1 ≤ b.weight) && (decide (b.weight ≤ 1048576) && (decide (0 ≤ b.count) && decide (b.count ≤ 60))))
def brickK (L : List BrickR) (k : Nat) : Bool := brick1 (bg L k) && !(brick_any (L.take k) (sameN (bg L k).name))
def okTo (L : List BrickR) : Nat → Bool
  | 0 => true
  | k + 1 => okTo L k && brickK L k
def cntTo (L : List BrickR) : Nat → Int
  | 0 => 0
  | k + 1 => cntTo L k + (bg L k).count
def brickB (L : List BrickR) : Bool := decide (L.length ≤ 8) && (okTo L L.length && decide (cntTo L L.length ≤ 60))
theorem brick1_iff (b : BrickR) : brick1 b = true ↔ isNameB b.name = true ∧ 1 ≤ b.weight ∧ b.weight ≤ 1048576 ∧ 0 ≤ b.count ∧ b.count ≤ 60 := by
  unfold brick1
  simp only [Bool.and_eq_true, decide_eq_true_eq]
theorem ok_all {L : List BrickR} : ∀ {k : Nat}, okTo L k = true → ∀ j, j < k → brickK L j = true
  | 0, _, j, hj => absurd hj (Nat.not_lt_zero _)
  | k + 1, h, j, hj => by
    simp only [okTo, Bool.and_eq_true] at h
    rcases (show j < k ∨ j = k by omega) with l | l
    · exact ok_all h.1 j l
    · subst l; exact h.2
theorem brickK_1 {L : List BrickR} {k : Nat} (h : brickK L k = true) : brick1 (bg L k) = true := by
  unfold brickK at h
  rw [Bool.and_eq_true] at h
  exact h.1
theorem cnt_bd {L : List BrickR} : ∀ {k : Nat}, okTo L k = true → 0 ≤ cntTo L k ∧ cntTo L k ≤ 60 * k
  | 0, _ => by simp [cntTo]
  | k + 1, h => by
    simp only [okTo, Bool.and_eq_true] at h
    obtain ⟨a, b⟩ := cnt_bd h.1
    obtain ⟨_, _, _, c, d⟩ := (brick1_iff _).1 (brickK_1 h.2)
    simp only [cntTo]
    omega
theorem brick_no {L : List BrickR} {k : Nat} (hk : k < L.length) (h : brickK L k = false) : brickB L = false := by
  unfold brickB
  rw [Bool.eq_false_iff]
  intro q
  simp only [Bool.and_eq_true] at q
  have := ok_all q.2.1 k hk
  rw [h] at this
  cases this
theorem brick_ok {L : List BrickR} (h : brickB L = true) : L.length ≤ 8 ∧ okTo L L.length = true ∧ cntTo L L.length ≤ 60 ∧ BrickOK L := by
  unfold brickB at h
  simp only [Bool.and_eq_true, decide_eq_true_eq] at h
  refine ⟨h.1, h.2.1, h.2.2, fun b hb => ?_⟩
  obtain ⟨j, hj, rfl⟩ := List.mem_iff_getElem.1 hb
  have := (brick1_iff _).1 (brickK_1 (ok_all h.2.1 j hj))
  rw [bg_eq L j hj] at this
  exact ⟨this.2.1, this.2.2.1, this.2.2.2.1, this.2.2.2.2⟩
theorem b_cases (b : BrickR) : (isNameB b.name = false ∧ brick1 b = false) ∨ (isNameB b.name = true ∧ decide (b.weight < 1) = true ∧ decide (1 ≤ b.weight) = false ∧ brick1 b = false) ∨ (isNameB b.name = true ∧ decide (b.weight < 1) = false ∧ decide (1 ≤ b.weight) = true ∧ decide (1048576 < b.weight) = true ∧ decide (b.weight ≤ 1048576) = false ∧ brick1 b = false) ∨
    (isNameB b.name = true ∧ decide (b.weight < 1) = false ∧ decide (1 ≤ b.weight) = true ∧ decide (1048576 < b.weight) = false ∧ decide (b.weight ≤ 1048576) = true ∧ decide (b.count < 0) = true ∧ decide (0 ≤ b.count) = false ∧ brick1 b = false) ∨
    (isNameB b.name = true ∧ decide (b.weight < 1) = false ∧ decide (1 ≤ b.weight) = true ∧ decide (1048576 < b.weight) = false ∧ decide (b.weight ≤ 1048576) = true ∧ decide (b.count < 0) = false ∧ decide (0 ≤ b.count) = true ∧ decide (60 < b.count) = true ∧ decide (b.count ≤ 60) = false ∧ brick1 b = false) ∨
    (isNameB b.name = true ∧ decide (b.weight < 1) = false ∧ decide (1 ≤ b.weight) = true ∧ decide (1048576 < b.weight) = false ∧ decide (b.weight ≤ 1048576) = true ∧ decide (b.count < 0) = false ∧ decide (0 ≤ b.count) = true ∧ decide (60 < b.count) = false ∧ decide (b.count ≤ 60) = true ∧ brick1 b = true) := by
  have hb := brick1_iff b
  have hn : brick1 b = false ↔ ¬ brick1 b = true := by rw [Bool.not_eq_true]
  rw [hn, hb]
  simp only [decide_eq_true_eq, decide_eq_false_iff_not]
  cases isNameB b.name <;> simp <;> omega
theorem brick_any_take {L : List BrickR} {k : Nat} (hk : k ≤ L.length) (p : BrickR → Bool) : brick_any (L.take k) p = false ↔ ∀ j, j < k → p (bg L j) = false := by
  have hT : (L.take k).length = k := by rw [List.length_take]; omega
  have hg : ∀ j, j < k → bg (L.take k) j = bg L j := fun j hj => by unfold bg; rw [List.getElem?_take, if_pos hj]
  unfold brick_any
  rcases brick_first_cases (L.take k) p with ⟨e, h⟩ | ⟨j, hj, e, h1, _⟩
  · rw [e]
    refine ⟨fun _ j hj => ?_, fun _ => rfl⟩
    have := h j (by omega)
    rwa [hg j hj] at this
  · rw [e]
    rw [hT] at hj
    rw [hg j hj] at h1
    refine ⟨fun h => ?_, fun h => ?_⟩
    · have := of_decide_eq_false h; omega
    · have := h j hj; rw [h1] at this; cases this
end Go.Proofs.Ythldfijlcoobgaa
