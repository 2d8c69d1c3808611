/-
  slices.Sort and slices.Compact at a row of numbers of the call's own.
-/
import Derived.Test.YtfiefmhnonddhaaDoorFind
import Derived.Lib.SlicesCompact
import Derived.Test.YtfiefmhnonddhaaDoorShelf
import Derived.Sort.OwnSortedInts
import Derived.Lib.RowBridge
namespace Go.Proofs.YtfiefmhnonddhaaDoor
open Go.RowKit Go.Shelf Go.Sort Go.Lib

section
open Go.Lib
theorem arr_ig (zs : List Int) (m : Nat) (h : m < zs.length) : zs.toArray[m]! = ig zs m := by
  rw [ig_eq zs m h, getElem!_pos _ m (by simpa using h)]
  simp
theorem ig_le {zs : List Int} (h : zs.Pairwise (· ≤ ·)) {i j : Nat} (hij : i ≤ j) (hj : j < zs.length) : ig zs i ≤ ig zs j := by
  rcases Nat.eq_or_lt_of_le hij with e | l
  · rw [e]; exact Int.le_refl _
  · rw [ig_eq zs i (by omega), ig_eq zs j hj]
    exact List.pairwise_iff_getElem.1 h i j (by omega) hj l
theorem compact_upto {zs : List Int} (h : zs.Pairwise (· ≤ ·)) : ∀ m, m ≤ zs.length → (compactUpTo zs.toArray m).Pairwise (· < ·) ∧ ∀ x, x ∈ compactUpTo zs.toArray m ↔ ∃ j, j < m ∧ ig zs j = x := by
  intro m
  induction m with
  | zero => intro _; refine ⟨by simp [compactUpTo], fun x => by simp [compactUpTo]⟩
  | succ m ih =>
    intro hm
    obtain ⟨h1, h2⟩ := ih (by omega)
    rw [compactUpTo_succ]
    by_cases hk : keeps zs.toArray m = true
    · rw [if_pos hk, arr_ig zs m (by omega)]
      have hlt : ∀ x ∈ compactUpTo zs.toArray m, x < ig zs m := fun x hx => by
        obtain ⟨j, hj, rfl⟩ := (h2 x).1 hx
        have h3 := ig_le h (show m - 1 ≤ m by omega) (by omega)
        have h4 := ig_le h (show j ≤ m - 1 by omega) (by omega)
        unfold keeps at hk
        have h5 := of_decide_eq_true hk
        rcases h5 with e | e
        · omega
        · rw [arr_ig zs m (by omega), arr_ig zs (m - 1) (by omega)] at e
          omega
      refine ⟨?_, fun x => ?_⟩
      · rw [List.pairwise_append]
        exact ⟨h1, List.pairwise_singleton _ _, fun a ha b hb => by rw [List.mem_singleton.1 hb]; exact hlt a ha⟩
      · rw [List.mem_append, h2]
        constructor
        · rintro (⟨j, hj, e⟩ | hx)
          · exact ⟨j, by omega, e⟩
          · exact ⟨m, by omega, (List.mem_singleton.1 hx).symm⟩
        · rintro ⟨j, hj, e⟩
          rcases Nat.lt_or_ge j m with l | l
          · exact .inl ⟨j, l, e⟩
          · obtain rfl : j = m := by omega
            exact .inr (by rw [e]; exact List.mem_singleton_self _)
    · rw [if_neg hk, List.append_nil]
      refine ⟨h1, fun x => ?_⟩
      rw [h2]
      constructor
      · rintro ⟨j, hj, e⟩; exact ⟨j, by omega, e⟩
      · rintro ⟨j, hj, e⟩
        rcases Nat.lt_or_ge j m with l | l
        · exact ⟨j, l, e⟩
        · obtain rfl : j = m := by omega
          have hk' : keeps zs.toArray j = false := by simpa using hk
          unfold keeps at hk'
          have h5 := of_decide_eq_false hk'
          have hj0 : j ≠ 0 := fun e => h5 (.inl e)
          refine ⟨j - 1, by omega, ?_⟩
          have h6 : zs.toArray[j]! = zs.toArray[j - 1]! := Classical.byContradiction fun e => h5 (.inr e)
          rw [arr_ig zs j (by omega), arr_ig zs (j - 1) (by omega)] at h6
          rw [← h6, e]
/-- The sort. -/
def sortI (l : List Int) : List Int := l.mergeSort fun x y => decide (x ≤ y)
theorem sortI_sorted (l : List Int) : (sortI l).Pairwise (· ≤ ·) := by
  have := List.pairwise_mergeSort (le := fun x y : Int => decide (x ≤ y)) (fun a b c h1 h2 => by simp at *; omega) (fun a b => by simp; omega) l
  exact this.imp fun h => by simpa using h
theorem sortI_len (l : List Int) : (sortI l).length = l.length := List.length_mergeSort _
theorem sortI_mem (l : List Int) (x : Int) : x ∈ sortI l ↔ x ∈ l := List.mem_mergeSort
theorem mem_ig {l : List Int} {x : Int} : x ∈ l ↔ ∃ j, j < l.length ∧ ig l j = x := by
  constructor
  · intro h
    obtain ⟨j, hj, e⟩ := List.getElem_of_mem h
    exact ⟨j, hj, by rw [ig_eq l j hj]; exact e⟩
  · rintro ⟨j, hj, e⟩
    rw [← e, ig_eq l j hj]
    exact List.getElem_mem hj
theorem compact_sort (l : List Int) : (compact (sortI l)).Pairwise (· < ·) ∧ ∀ x, x ∈ compact (sortI l) ↔ x ∈ l := by
  obtain ⟨h1, h2⟩ := compact_upto (sortI_sorted l) (sortI l).length (Nat.le_refl _)
  exact ⟨h1, fun x => (h2 x).trans (mem_ig.symm.trans (sortI_mem l x))⟩
end

theorem nflat_map (L : List Int) : nflat L = L.map (Value.int .i64) := by
  induction L with
  | nil => rfl
  | cons x r ih => rw [List.map_cons, ← ih]; rfl
theorem row_block {w : World} {base g n cap : Nat} {e : TypeId} {xs : List Value} (h : w.ownsRow base e 1 (.slice (some ⟨g, 0, none⟩) n cap) n xs) :
    ∃ cur, base ≤ g ∧ w.heap[g]? = some (.cells cur e (0, 0)) ∧ n ≤ cap ∧ cap ≤ maxLen ∧ cur.size = cap * 1 ∧ cur.toList.take (n * 1) = xs := by
  rcases h.2 with ⟨e0, _⟩ | ⟨g', cap', cur, e0, hb, hg, h1, h2, h3, h4⟩
  · cases e0
  · cases e0; exact ⟨cur, hb, hg, h1, h2, h3, h4⟩
theorem sort_own {w : World} {base g cap : Nat} {L : List Int} (h : w.ownsRow base 3 1 (.slice (some ⟨g, 0, none⟩) L.length cap) L.length (nflat L)) (hl : L.length ≤ 1000000) :
    Calls Tryd.prog 44 #[.slice (some ⟨g, 0, none⟩) L.length cap] w fun e w' => e = .returned (.tuple #[]) ∧ w'.ownsRow base 3 1 (.slice (some ⟨g, 0, none⟩) L.length cap) L.length (nflat (sortI L)) ∧ w.grownBy w' (some g) := by
  obtain ⟨cur, hb, hg, h1, h2, h3, h4⟩ := row_block h
  rw [Nat.mul_one, nflat_map] at h4
  refine (Tryd.slices_Sort_int g 0 cap L w (holds_of_blockI hg h4) (Array.getElem?_eq_some_iff.1 hg).1 (by omega)).mono fun e w' ⟨he, n, os, hw⟩ => ⟨he, ?_, ?_⟩
  · rw [hw, nflat_map]
    exact ownsRow_sortedI (sortI_len L) hb hg h1 h2 h3
  · rw [hw]; exact grownBy_sortedI _
theorem compact_own {w : World} {base g cap : Nat} {L : List Int} (h : w.ownsRow base 3 1 (.slice (some ⟨g, 0, none⟩) L.length cap) L.length (nflat L)) (hl : L.length ≤ 1000000) :
    Calls Tryd.prog 33 #[.slice (some ⟨g, 0, none⟩) L.length cap] w fun e w' => e = .returned (.slice (some ⟨g, 0, none⟩) (compact L).length cap) ∧ w'.ownsRow base 3 1 (.slice (some ⟨g, 0, none⟩) (compact L).length cap) (compact L).length (nflat (compact L)) ∧ w.grownBy w' (some g) := by
  obtain ⟨cur, hb, hg, h1, h2, h3, h4⟩ := row_block h
  rw [Nat.mul_one, nflat_map] at h4
  have hle := compact_length_le L
  refine (Tryd.slices_Compact_int g 0 cap L w (holds_of_blockI hg h4) (by omega) h1).mono fun e w' ⟨he, q, hw⟩ => ⟨he, ?_, ?_⟩
  · rw [hw, nflat_map]
    have hh := heap_sortedI (n := q) (os := #[]) (compact L ++ List.replicate (L.length - (compact L).length) 0).toArray hg
    rw [grow_empty] at hh
    refine ⟨by simp, .inr ⟨g, cap, _, rfl, hb, hh, by omega, h2, by simp [putCells, h3], ?_⟩⟩
    have ht := take_putCellsI cur (compact L ++ List.replicate (L.length - (compact L).length) 0) (by simp; omega)
    have h5 := congrArg (List.take (compact L).length) ht
    rw [List.take_take, Nat.min_eq_left (by simp), List.map_append, List.take_append_of_le_length (by simp), List.take_of_length_le (l := (compact L).map (Value.int .i64)) (by simp)] at h5
    rw [Nat.mul_one]
    exact h5
  · rw [hw]
    have := grownBy_sortedI (w := w) (g := g) (n := q) (os := #[]) (compact L ++ List.replicate (L.length - (compact L).length) 0).toArray
    rw [grow_empty] at this
    exact this
theorem reverse_own {w : World} {base g cap : Nat} {L : List Int} (h : w.ownsRow base 3 1 (.slice (some ⟨g, 0, none⟩) L.length cap) L.length (nflat L)) (hl : L.length ≤ 1000000) :
    Calls Tryd.prog 19 #[.slice (some ⟨g, 0, none⟩) L.length cap] w fun e w' => e = .returned (.tuple #[]) ∧ w'.ownsRow base 3 1 (.slice (some ⟨g, 0, none⟩) L.length cap) L.length (nflat L.reverse) ∧ w.grownBy w' (some g) := by
  obtain ⟨cur, hb, hg, h1, h2, h3, h4⟩ := row_block h
  rw [Nat.mul_one, nflat_map] at h4
  refine (Tryd.slices_Reverse_int g 0 cap L w (holds_of_blockI hg h4) (by omega)).mono fun e w' ⟨he, n, hw⟩ => ⟨he, ?_, ?_⟩
  · rw [hw, nflat_map]
    have hh := ownsRow_sortedI (w := w) (n := n) (os := #[]) (ts := L.reverse) (ss := L) (by simp) hb hg h1 h2 h3
    rw [grow_empty] at hh
    exact hh
  · rw [hw]
    have := grownBy_sortedI (w := w) (g := g) (n := n) (os := #[]) L.reverse.toArray
    rw [grow_empty] at this
    exact this
end Go.Proofs.YtfiefmhnonddhaaDoor
