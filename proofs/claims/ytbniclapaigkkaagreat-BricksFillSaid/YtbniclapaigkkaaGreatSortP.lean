/-
  PLAIN: Sort and Compact of a list of numbers.
-/
import Derived.Test.YtbniclapaigkkaaGreatApp
import Derived.Lib.SlicesCompact
namespace Go.Proofs.YtbniclapaigkkaaGreat
open Go.Lib

/-! ### Compact of a sorted list -/
theorem arr_ig (zs : List Int) (m : Nat) (h : m < zs.length) : zs.toArray[m]! = ig zs m := by
  rw [ig_eq zs m h, getElem!_pos _ m (by simpa using h)]
  simp
theorem ig_le {zs : List Int} (h : zs.Pairwise (· ≤ ·)) {i j : Nat} (hij : i ≤ j) (hj : j < zs.length) : ig zs i ≤ ig zs j := by
  rcases Nat.eq_or_lt_of_le hij with e | l
  · rw [e]; exact Int.le_refl _
  · rw [ig_eq zs i (by omega), ig_eq zs j hj]
    exact List.pairwise_iff_getElem.1 h i j (by omega) hj l
theorem compact_upto {zs : List Int} (h : zs.Pairwise (· ≤ ·)) : ∀ m, m ≤ zs.length → (compactUpTo zs.toArray m).Pairwise (· < ·) ∧ ∀ x, x ∈ compactUpTo zs.toArray m ↔ ∃ j, j < m ∧ ig zs j = x := by
  intro m
  induction m with
  | zero => intro _; refine ⟨by simp [compactUpTo], fun x => by simp [compactUpTo]⟩
  | succ m ih =>
    intro hm
    obtain ⟨h1, h2⟩ := ih (by omega)
    rw [compactUpTo_succ]
    by_cases hk : keeps zs.toArray m = true
    · rw [if_pos hk, arr_ig zs m (by omega)]
      have hlt : ∀ x ∈ compactUpTo zs.toArray m, x < ig zs m := fun x hx => by
        obtain ⟨j, hj, rfl⟩ := (h2 x).1 hx
        have h3 := ig_le h (show m - 1 ≤ m by omega) (by omega)
        have h4 := ig_le h (show j ≤ m - 1 by omega) (by omega)
        unfold keeps at hk
        have h5 := of_decide_eq_true hk
        rcases h5 with e | e
        · omega
        · rw [arr_ig zs m (by omega), arr_ig zs (m - 1) (by omega)] at e
          omega
      refine ⟨?_, fun x => ?_⟩
      · rw [List.pairwise_append]
        exact ⟨h1, List.pairwise_singleton _ _, fun a ha b hb => by rw [List.mem_singleton.1 hb]; exact hlt a ha⟩
      · rw [List.mem_append, h2]
        constructor
        · rintro (⟨j, hj, e⟩ | hx)
          · exact ⟨j, by omega, e⟩
          · exact ⟨m, by omega, (List.mem_singleton.1 hx).symm⟩
        · rintro ⟨j, hj, e⟩
          rcases Nat.lt_or_ge j m with l | l
          · exact .inl ⟨j, l, e⟩
          · obtain rfl : j = m := by omega
            exact .inr (by rw [e]; exact List.mem_singleton_self _)
    · rw [if_neg hk, List.append_nil]
      refine ⟨h1, fun x => ?_⟩
      rw [h2]
      constructor
      · rintro ⟨j, hj, e⟩; exact ⟨j, by omega, e⟩
      · rintro ⟨j, hj, e⟩
        rcases Nat.lt_or_ge j m with l | l
        · exact ⟨j, l, e⟩
        · obtain rfl : j = m := by omega
          have hk' : keeps zs.toArray j = false := by simpa using hk
          unfold keeps at hk'
          have h5 := of_decide_eq_false hk'
          have hj0 : j ≠ 0 := fun e => h5 (.inl e)
          refine ⟨j - 1, by omega, ?_⟩
          have h6 : zs.toArray[j]! = zs.toArray[j - 1]! := Classical.byContradiction fun e => h5 (.inr e)
          rw [arr_ig zs j (by omega), arr_ig zs (j - 1) (by omega)] at h6
          rw [← h6, e]
/-- The sort. -/
def sortI (l : List Int) : List Int := l.mergeSort fun x y => decide (x ≤ y)
theorem sortI_sorted (l : List Int) : (sortI l).Pairwise (· ≤ ·) := by
  have := List.pairwise_mergeSort (le := fun x y : Int => decide (x ≤ y)) (fun a b c h1 h2 => by simp at *; omega) (fun a b => by simp; omega) l
  exact this.imp fun h => by simpa using h
theorem sortI_len (l : List Int) : (sortI l).length = l.length := List.length_mergeSort _
theorem sortI_mem (l : List Int) (x : Int) : x ∈ sortI l ↔ x ∈ l := List.mem_mergeSort
theorem mem_ig {l : List Int} {x : Int} : x ∈ l ↔ ∃ j, j < l.length ∧ ig l j = x := by
  constructor
  · intro h
    obtain ⟨j, hj, e⟩ := List.getElem_of_mem h
    exact ⟨j, hj, by rw [ig_eq l j hj]; exact e⟩
  · rintro ⟨j, hj, e⟩
    rw [← e, ig_eq l j hj]
    exact List.getElem_mem hj
theorem compact_sort (l : List Int) : (compact (sortI l)).Pairwise (· < ·) ∧ ∀ x, x ∈ compact (sortI l) ↔ x ∈ l := by
  obtain ⟨h1, h2⟩ := compact_upto (sortI_sorted l) (sortI l).length (Nat.le_refl _)
  exact ⟨h1, fun x => (h2 x).trans (mem_ig.symm.trans (sortI_mem l x))⟩

end Go.Proofs.YtbniclapaigkkaaGreat
