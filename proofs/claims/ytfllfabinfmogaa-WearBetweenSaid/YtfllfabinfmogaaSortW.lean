/-
  slices.Sort and slices.Compact at a row of numbers of the call's own.
-/
import Derived.Test.YtfllfabinfmogaaSortP
import Derived.Test.YtfllfabinfmogaaShelf
import Derived.Sort.OwnSortedInts
import Derived.Lib.RowBridge
namespace Go.Proofs.Ytfllfabinfmogaa
open Go.RowKit Go.Shelf Go.Sort Go.Lib

theorem nflat_map (L : List Int) : nflat L = L.map (Value.int .i64) := by
  induction L with
  | nil => rfl
  | cons x r ih => rw [List.map_cons, ← ih]; rfl
theorem row_block {w : World} {base g n cap : Nat} {e : TypeId} {xs : List Value} (h : w.ownsRow base e 1 (.slice (some ⟨g, 0, none⟩) n cap) n xs) :
    ∃ cur, base ≤ g ∧ w.heap[g]? = some (.cells cur e (0, 0)) ∧ n ≤ cap ∧ cap ≤ maxLen ∧ cur.size = cap * 1 ∧ cur.toList.take (n * 1) = xs := by
  rcases h.2 with ⟨e0, _⟩ | ⟨g', cap', cur, e0, hb, hg, h1, h2, h3, h4⟩
  · cases e0
  · cases e0; exact ⟨cur, hb, hg, h1, h2, h3, h4⟩
theorem sort_own {w : World} {base g cap : Nat} {L : List Int} (h : w.ownsRow base 3 1 (.slice (some ⟨g, 0, none⟩) L.length cap) L.length (nflat L)) (hl : L.length ≤ 1000000) :
    Calls Try.prog 33 #[.slice (some ⟨g, 0, none⟩) L.length cap] w fun e w' => e = .returned (.tuple #[]) ∧ w'.ownsRow base 3 1 (.slice (some ⟨g, 0, none⟩) L.length cap) L.length (nflat (sortI L)) ∧ w.grownBy w' (some g) := by
  obtain ⟨cur, hb, hg, h1, h2, h3, h4⟩ := row_block h
  rw [Nat.mul_one, nflat_map] at h4
  refine (Try.slices_Sort_int g 0 cap L w (holds_of_blockI hg h4) (Array.getElem?_eq_some_iff.1 hg).1 (by omega)).mono fun e w' ⟨he, n, os, hw⟩ => ⟨he, ?_, ?_⟩
  · rw [hw, nflat_map]
    exact ownsRow_sortedI (sortI_len L) hb hg h1 h2 h3
  · rw [hw]; exact grownBy_sortedI _
end Go.Proofs.Ytfllfabinfmogaa
