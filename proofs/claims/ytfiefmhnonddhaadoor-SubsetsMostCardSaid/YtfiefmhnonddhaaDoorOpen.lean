/-
  OPENING A SLICE OF RECORDS that came in, whatever the record: its cells, one behind the other, are those of a list.
-/
import Derived.Test.YtfiefmhnonddhaaDoorFrame
import Derived.Deep.Slices
import Derived.Deep.Fields
import Derived.WalkKit
namespace Go.Proofs.YtfiefmhnonddhaaDoor
open Go.ChangeShapes Go.WideShapes Go.ChangeAt Go.WideMaps Go.WideElems Go.RowKit Go.Deep

theorem flatMap_get {X : Type} (cells : X → List Value) (size : Nat) (hlen : ∀ r, (cells r).length = size) : ∀ (L : List X) (j : Nat) (u : Value), (L.flatMap cells)[j]? = some u → ∃ i k r, j = i * size + k ∧ L[i]? = some r ∧ (cells r)[k]? = some u
  | [], j, u, h => by simp at h
  | x :: l, j, u, h => by
    rw [List.flatMap_cons, List.getElem?_append] at h
    split at h
    · exact ⟨0, j, x, by omega, rfl, h⟩
    · next hj =>
      rw [hlen] at h hj
      obtain ⟨i, k, r, e, h1, h2⟩ := flatMap_get cells size hlen l _ u h
      exact ⟨i + 1, k, r, by rw [Nat.add_mul]; omega, h1, h2⟩

section
variable {H : Type} {enc : TypeId × Value → H} {P : Program} {w : World} {base : Nat} {spare : Nat → Bool} {held : Bool}
theorem open_rows {X : Type} [Inhabited X] (cells : X → List Value) (size : Nat) (Fit : X → Prop) (hsize : 0 < size) (hlen : ∀ r, (cells r).length = size) {t e : TypeId} (ht : P.underlying t = some (.slice e)) (hC : P.cellsOf e = size)
    (hel : ∀ n cs' y, cs'.length = size → DataW.trod enc P w base spare held n e cs' = some y → ∃ r, cs' = cells r ∧ Fit r) {fuel : Nat} {v : Value} {x : DataW H × List MemPlace} (h : DataW.trod enc P w base spare held fuel t [v] = some x) :
    ∃ (a : Option Addr) (cap : Nat) (L : List X), v = .slice a L.length cap ∧ L.length ≤ cap ∧ cap ≤ maxLen ∧ (a = none → cap = 0) ∧ (∀ r ∈ L, Fit r) ∧
      (0 < L.length → ∃ b off, a = some ⟨b, off, none⟩ ∧ b < w.heap.size ∧ ∀ j u, (L.flatMap cells)[j]? = some u → w.cell? ⟨b, off + j, none⟩ = some u) := by
  rcases open_slice ht h with ⟨hcs, _⟩ | ⟨a, len, cap, m, n, D, Pl, hcs, _, hl, hm, hmm, _, hi⟩
  · simp only [List.cons.injEq, and_true] at hcs
    subst hcs
    exact ⟨none, 0, [], rfl, Nat.le_refl _, by unfold maxLen; omega, fun _ => rfl, (fun _ h => by cases h), fun h => absurd h (Nat.not_lt_zero _)⟩
  · simp only [List.cons.injEq, and_true] at hcs
    subst hcs
    have hlm : len ≤ m := by rw [hmm]; split <;> omega
    have hex : ∀ i, ∃ r : X, i < len → Fit r ∧ ∀ k u, (cells r)[k]? = some u → w.cell? (a.add (i * size + k)) = some u := fun i => by
      by_cases h : i < len
      · obtain ⟨cs', hc, ht'⟩ := hi i (by omega)
        rw [hC] at hc
        obtain ⟨_, hcl, hat⟩ := World.cells?_some hc
        obtain ⟨r, e, hf⟩ := hel n cs' _ hcl ht'
        refine ⟨r, fun _ => ⟨hf, fun k u hu => ?_⟩⟩
        rw [← e] at hu
        have hk : k < size := by
          have := (List.getElem?_eq_some_iff.1 hu).1
          omega
        rw [← Go.Deep.add_add, hat k hk, hu]
      · exact ⟨default, fun h' => absurd h' h⟩
    obtain ⟨f, hf⟩ := Classical.axiomOfChoice hex
    refine ⟨some a, cap, (List.range len).map f, by simp, by simpa using hl, hm, (fun e => by cases e), ?_, ?_⟩
    · intro r hr
      obtain ⟨i, hi', rfl⟩ := List.mem_map.1 hr
      exact (hf i (by simpa using hi')).1
    · intro hpos
      have hpos' : 0 < len := by simpa using hpos
      have hcell : ∀ i k u, i < len → (cells (f i))[k]? = some u → w.cell? (a.add (i * size + k)) = some u := fun i k u h hu => (hf i h).2 k u hu
      have h0 : ∃ u, (cells (f 0))[0]? = some u := ⟨_, List.getElem?_eq_getElem (by rw [hlen]; exact hsize)⟩
      obtain ⟨u0, hu0⟩ := h0
      have hc0 := hcell 0 0 u0 hpos' hu0
      obtain ⟨b, off, spot⟩ := a
      have hspot : spot = none := by simpa [Addr.add] using World.cell?_spot hc0
      subst hspot
      refine ⟨b, off, rfl, ?_, fun j u hj => ?_⟩
      · rw [Go.WideShapes.add_plain] at hc0
        exact World.block_lt_of_cell? w _ hc0
      · obtain ⟨i, k, r, e, h1, h2⟩ := flatMap_get cells size hlen _ j u hj
        rw [List.getElem?_map] at h1
        have hil : i < len := by
          rcases Nat.lt_or_ge i len with l | l
          · exact l
          · rw [List.getElem?_eq_none (by simpa using l)] at h1; cases h1
        rw [List.getElem?_range hil] at h1
        obtain rfl : f i = r := by simpa using h1
        have := hcell i k u hil h2
        rw [Go.WideShapes.add_plain] at this
        rw [e]
        exact this
/-- An element that is a struct of one-cell fields. -/
theorem elem_fields {e : TypeId} {fs : Array Field} {n : Nat} {cs' : List Value} {y : DataW H × List MemPlace} (he : P.underlying e = some (.struct fs)) (hone : oneCellFields P fs = true) (hl : cs'.length = fs.size) (h : DataW.trod enc P w base spare held n e cs' = some y) :
    ∃ m, ∀ (j : Nat) (f : Field), fs[j]? = some f → ∃ (v : Value) (z : DataW H × List MemPlace), cs'[j]? = some v ∧ DataW.trod enc P w base spare held m f.type [v] = some z := by
  obtain ⟨ys, n', hn', hy, hlen, hyl, hf⟩ := DataW.trod_struct he h
  refine ⟨n', fun j f hj => ?_⟩
  obtain ⟨ho, hk⟩ := hone_of hone j f hj
  have hjl : j < fs.size := (Array.getElem?_eq_some_iff.1 hj).1
  have hv : cs'[j]? = some (cs'[j]'(by omega)) := List.getElem?_eq_getElem (by omega)
  have h1 := hf j f hj
  rw [ho, hk] at h1
  have hone' : (cs'.drop j).take 1 = [cs'[j]'(by omega)] := by
    rw [List.drop_eq_getElem_cons (by omega)]
    rfl
  rw [hone'] at h1
  exact ⟨_, ys[j]'(by omega), hv, h1.trans (List.getElem?_eq_getElem (by omega))⟩
/-- A field that is a slice of whatever. -/
theorem field_slice {t e : TypeId} {n : Nat} {v : Value} {y : DataW H × List MemPlace} (ht : P.underlying t = some (.slice e)) (h : DataW.trod enc P w base spare held n t [v] = some y) : ∃ a l c, v = .slice a l c := by
  rcases open_slice ht h with ⟨hcs, _⟩ | ⟨a, len, cap, m, n, D, Pl, hcs, _⟩
  · simp only [List.cons.injEq, and_true] at hcs
    exact ⟨_, _, _, hcs⟩
  · simp only [List.cons.injEq, and_true] at hcs
    exact ⟨_, _, _, hcs⟩
end
end Go.Proofs.YtfiefmhnonddhaaDoor
