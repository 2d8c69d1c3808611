/-
  slices.Sort and slices.Compact at a row of numbers of the call's own.
-/
import Derived.Test.YtbniclapaigkkaaGreatSortP
import Derived.Test.YtbniclapaigkkaaGreatShelf
import Derived.Sort.OwnSortedInts
import Derived.Lib.RowBridge
namespace Go.Proofs.YtbniclapaigkkaaGreat
open Go.RowKit Go.Shelf Go.Sort Go.Lib

theorem nflat_map (L : List Int) : nflat L = L.map (Value.int .i64) := by
  induction L with
  | nil => rfl
  | cons x r ih => rw [List.map_cons, ← ih]; rfl
theorem row_block {w : World} {base g n cap : Nat} {e : TypeId} {xs : List Value} (h : w.ownsRow base e 1 (.slice (some ⟨g, 0, none⟩) n cap) n xs) :
    ∃ cur, base ≤ g ∧ w.heap[g]? = some (.cells cur e (0, 0)) ∧ n ≤ cap ∧ cap ≤ maxLen ∧ cur.size = cap * 1 ∧ cur.toList.take (n * 1) = xs := by
  rcases h.2 with ⟨e0, _⟩ | ⟨g', cap', cur, e0, hb, hg, h1, h2, h3, h4⟩
  · cases e0
  · cases e0; exact ⟨cur, hb, hg, h1, h2, h3, h4⟩
theorem sort_own {w : World} {base g cap : Nat} {L : List Int} (h : w.ownsRow base 3 1 (.slice (some ⟨g, 0, none⟩) L.length cap) L.length (nflat L)) (hl : L.length ≤ 1000000) :
    Calls Tryz.prog 38 #[.slice (some ⟨g, 0, none⟩) L.length cap] w fun e w' => e = .returned (.tuple #[]) ∧ w'.ownsRow base 3 1 (.slice (some ⟨g, 0, none⟩) L.length cap) L.length (nflat (sortI L)) ∧ w.grownBy w' (some g) := by
  obtain ⟨cur, hb, hg, h1, h2, h3, h4⟩ := row_block h
  rw [Nat.mul_one, nflat_map] at h4
  refine (Tryz.slices_Sort_int g 0 cap L w (holds_of_blockI hg h4) (Array.getElem?_eq_some_iff.1 hg).1 (by omega)).mono fun e w' ⟨he, n, os, hw⟩ => ⟨he, ?_, ?_⟩
  · rw [hw, nflat_map]
    exact ownsRow_sortedI (sortI_len L) hb hg h1 h2 h3
  · rw [hw]; exact grownBy_sortedI _
theorem compact_own {w : World} {base g cap : Nat} {L : List Int} (h : w.ownsRow base 3 1 (.slice (some ⟨g, 0, none⟩) L.length cap) L.length (nflat L)) (hl : L.length ≤ 1000000) :
    Calls Tryz.prog 39 #[.slice (some ⟨g, 0, none⟩) L.length cap] w fun e w' => e = .returned (.slice (some ⟨g, 0, none⟩) (compact L).length cap) ∧ w'.ownsRow base 3 1 (.slice (some ⟨g, 0, none⟩) (compact L).length cap) (compact L).length (nflat (compact L)) ∧ w.grownBy w' (some g) := by
  obtain ⟨cur, hb, hg, h1, h2, h3, h4⟩ := row_block h
  rw [Nat.mul_one, nflat_map] at h4
  have hle := compact_length_le L
  refine (Tryz.slices_Compact_int g 0 cap L w (holds_of_blockI hg h4) (by omega) h1).mono fun e w' ⟨he, q, hw⟩ => ⟨he, ?_, ?_⟩
  · rw [hw, nflat_map]
    have hh := heap_sortedI (n := q) (os := #[]) (compact L ++ List.replicate (L.length - (compact L).length) 0).toArray hg
    rw [grow_empty] at hh
    refine ⟨by simp, .inr ⟨g, cap, _, rfl, hb, hh, by omega, h2, by simp [putCells, h3], ?_⟩⟩
    have ht := take_putCellsI cur (compact L ++ List.replicate (L.length - (compact L).length) 0) (by simp; omega)
    have h5 := congrArg (List.take (compact L).length) ht
    rw [List.take_take, Nat.min_eq_left (by simp), List.map_append, List.take_append_of_le_length (by simp), List.take_of_length_le (l := (compact L).map (Value.int .i64)) (by simp)] at h5
    rw [Nat.mul_one]
    exact h5
  · rw [hw]
    have := grownBy_sortedI (w := w) (g := g) (n := q) (os := #[]) (compact L ++ List.replicate (L.length - (compact L).length) 0).toArray
    rw [grow_empty] at this
    exact this
end Go.Proofs.YtbniclapaigkkaaGreat
