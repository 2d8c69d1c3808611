/-
  PLAIN LAWS over any program: a row of the call's own is cut, and written over; clear at a slice of records; the shape of slices.DeleteFunc.
-/
import Derived.WalkKit
import Derived.Below
import Derived.Laws.OwnMore
import Derived.Laws.IdiomCopy
namespace Go.Proofs.YtfkmnneieglolaaGreatDoor

section
variable {w : World} {base size n cap g : Nat} {e : TypeId} {xs : List Value}
theorem row_cut (h : w.ownsRow base e size (.slice (some ⟨g, 0, none⟩) n cap) n xs) (k : Nat) (hk : k ≤ n) : w.ownsRow base e size (.slice (some ⟨g, 0, none⟩) k cap) k (xs.take (k * size)) := by
  have hm : k * size ≤ n * size := Nat.mul_le_mul_right _ hk
  rcases h.2 with ⟨h', _⟩ | ⟨g', cap', cur, h', hb, hg, hnc, hcm, hcs, htake⟩
  · simp at h'
  · simp only [Value.slice.injEq, Option.some.injEq, Addr.mk.injEq, and_true, true_and] at h'
    obtain ⟨rfl, rfl⟩ := h'
    refine ⟨by rw [List.length_take, h.1]; omega, .inr ⟨g, cap, cur, rfl, hb, hg, by omega, hcm, hcs, ?_⟩⟩
    rw [← htake, List.take_take, Nat.min_eq_left hm]
theorem row_cells (h : w.ownsRow base e size (.slice (some ⟨g, 0, none⟩) n cap) n xs) (vs : List Value) (o : Nat) :
    (∃ ys, ys.take o = xs.take o ∧ (w.setCells g o vs).ownsRow base e size (.slice (some ⟨g, 0, none⟩) n cap) n ys) ∧ w.grownBy (w.setCells g o vs) (some g) := by
  induction vs generalizing w xs o with
  | nil => exact ⟨⟨xs, rfl, h⟩, ⟨rfl, rfl, rfl, Nat.le_refl _, fun _ _ _ => rfl⟩⟩
  | cons v r ih =>
    obtain ⟨h1, g1⟩ := h.stored o v
    obtain ⟨⟨ys, e1, h2⟩, g2⟩ := ih h1 (o + 1)
    refine ⟨⟨ys, ?_, h2⟩, ⟨g2.os.trans g1.os, g2.tape.trans g1.tape, g2.output.trans g1.output, Nat.le_trans g1.size g2.size, fun k hk hne => (g2.block k (Nat.lt_of_lt_of_le hk g1.size) hne).trans (g1.block k hk hne)⟩⟩
    have := congrArg (List.take o) e1
    rw [List.take_take, List.take_take, Nat.min_eq_left (by omega), List.take_set_of_le (Nat.le_refl _)] at this
    exact this
end

theorem run_clear_rows {P : Program} (w : World) (t e ty : TypeId) (z : Value) (size : Nat) (ht : P.underlying t = some (.slice e)) (hv : ∀ w, (zeroValue e).run P w = .ok z w) (hz : z.cells.size = size) (h1 : ∀ v ∈ z.cells, v.oneCell' = true) (b o n c : Nat) (hn : 0 < n)
    (hc : ∀ j, j < n * size → (w.cell? ⟨b, o + j, none⟩).isSome = true) (hf : ∀ j, j < n * size → w.frozen? ⟨b, o + j, none⟩ = false) :
    (Builtin.clear_ #[t] ty #[.slice (some ⟨b, o, none⟩) n c]).run P w = .ok (.tuple #[]) (w.setCells b o (Builtin.zeroCells z.cells n).toList) := by
  have hl : (Builtin.zeroCells z.cells n).toList.length = n * size := by simp [Builtin.zeroCells, hz]
  have hst := run_storeCells_cells (P := P) b o (Builtin.zeroCells z.cells n).toList 0 w (by rw [hl]; simpa using hc) (by rw [hl]; simpa using hf) (by
    intro v hv'
    simp only [Builtin.zeroCells, Array.toList_map, List.mem_map] at hv'
    obtain ⟨i, hi, rfl⟩ := hv'
    refine h1 _ ?_
    have hs : 0 < z.cells.size := by
      rcases Nat.eq_zero_or_pos z.cells.size with h0 | h0
      · simp [h0] at hi
      · exact h0
    have hm := Nat.mod_lt i hs
    rw [getElem!_pos z.cells _ hm]
    exact Array.getElem_mem hm)
  simp only [Nat.add_zero] at hst
  obtain ⟨m, rfl⟩ : ∃ m, n = m + 1 := ⟨n - 1, by omega⟩
  simp [Builtin.clear_, run_underlying ht, hv, hst]

/-- What slices.DeleteFunc has done behind j elements: i are kept. -/
structure Part {α : Type} (L M : List α) (p : α → Bool) (i j : Nat) : Prop where
  len : M.length = L.length
  ij : i ≤ j
  jl : j ≤ L.length
  head : M.take i = (L.take j).filter fun x => !p x
  tail : M.drop j = L.drop j
namespace Part
variable {α : Type} {L M : List α} {p : α → Bool} {i j : Nat}
theorem at_j (h : Part L M p i j) (x : α) (hx : L[j]? = some x) : M[j]? = some x := by
  have := congrArg (fun l => l[0]?) h.tail
  simp only [List.getElem?_drop, Nat.add_zero] at this
  rw [this, hx]
theorem skip (h : Part L M p i j) (x : α) (hx : L[j]? = some x) (hp : p x = true) : Part L M p i (j + 1) := by
  have hj := (List.getElem?_eq_some_iff.1 hx).1
  refine ⟨h.len, by have := h.ij; omega, hj, ?_, ?_⟩
  · rw [h.head, List.take_add_one, hx]
    simp [hp]
  · have := congrArg (List.drop 1) h.tail
    rwa [List.drop_drop, List.drop_drop] at this
theorem keep (h : Part L M p i j) (x : α) (hx : L[j]? = some x) (hp : p x = false) : Part L (M.set i x) p (i + 1) (j + 1) := by
  have hj := (List.getElem?_eq_some_iff.1 hx).1
  have hij := h.ij
  refine ⟨by simp [h.len], by omega, hj, ?_, ?_⟩
  · rw [List.take_add_one, List.take_set_of_le (Nat.le_refl _), h.head, List.take_add_one, hx]
    have : (M.set i x)[i]? = some x := by rw [List.getElem?_set_self (by rw [h.len]; omega)]
    rw [this]
    simp [hp]
  · rw [List.drop_set_of_lt (by omega)]
    have := congrArg (List.drop 1) h.tail
    rwa [List.drop_drop, List.drop_drop] at this
theorem start (L : List α) (p : α → Bool) (i : Nat) (x : α) (hx : L[i]? = some x) (hp : p x = true) (hn : ∀ (j : Nat) y, j < i → L[j]? = some y → p y = false) : Part L L p i (i + 1) := by
  have hi := (List.getElem?_eq_some_iff.1 hx).1
  refine ⟨rfl, by omega, hi, ?_, rfl⟩
  rw [List.take_add_one, hx, List.filter_append]
  have e : (L.take i).filter (fun x => !p x) = L.take i := by
    rw [List.filter_eq_self]
    intro y hy
    obtain ⟨j, hj, e⟩ := List.getElem_of_mem hy
    have hj' : j < i := by simp at hj; omega
    have := hn j y hj' (by rw [← e]; simp [List.getElem?_eq_getElem (show j < L.length by omega)])
    simp [this]
  rw [e]
  simp [hp]
theorem done (h : Part L M p i L.length) : M.take i = L.filter (fun x => !p x) ∧ (L.filter fun x => !p x).length = i := by
  have h1 := h.head
  rw [List.take_length] at h1
  refine ⟨h1, ?_⟩
  rw [← h1, List.length_take, h.len]
  have := h.ij
  omega
end Part
theorem filter_all {α : Type} (L : List α) (p : α → Bool) (h : ∀ (j : Nat) y, L[j]? = some y → p y = false) : L.filter (fun x => !p x) = L := by
  rw [List.filter_eq_self]
  intro y hy
  obtain ⟨j, hj, e⟩ := List.getElem_of_mem hy
  simp [h j y (by rw [← e, List.getElem?_eq_getElem hj])]
end Go.Proofs.YtfkmnneieglolaaGreatDoor
