/-
  A LOG THAT CAME IN: an argument of type []api.Log as the walks want it.
-/
import Derived.Test.YtfojipgbenbigaaDoorMem
import Derived.Test.YtfojipgbenbigaaDoorFrame
import Derived.Deep.Slices
import Derived.Deep.Fields
namespace Go.Proofs.YtfojipgbenbigaaDoor
open Go.ChangeShapes Go.WideShapes Go.ChangeAt Go.WideMaps Go.WideElems Go.RowKit Go.Deep

section
variable {H : Type} {enc : TypeId × Value → H} {P : Program} {w : World} {base : Nat} {spare : Nat → Bool} {held : Bool}
theorem open_slice_fields {t e : TypeId} {fs : Array Field} {fuel : Nat} {cs : List Value} {x : DataW H × List MemPlace} (ht : P.underlying t = some (.slice e)) (he : P.underlying e = some (.struct fs))
    (hone : oneCellFields P fs = true) (hC : P.cellsOf e = fs.size) (h : DataW.trod enc P w base spare held fuel t cs = some x) :
    (cs = [.slice none 0 0] ∧ x = (.nil, [])) ∨
    ∃ (a : Addr) (len cap m : Nat) (D : Nat → DataW H) (Pl : Nat → List MemPlace), cs = [.slice (some a) len cap] ∧ base ≤ a.block ∧ len ≤ cap ∧ cap ≤ maxLen ∧ m = (if spare a.block then cap else len) ∧
      x = (.slice ((List.range len).map D) ((List.range (m - len)).map fun j => D (len + j)), MemPlace.row a (m * fs.size) ++ (List.range m).flatMap Pl) ∧
      ∀ i, i < m → ∃ (ys : List (DataW H × List MemPlace)) (n : Nat), D i = .agg (ys.map (·.1)) ∧ Pl i = ys.flatMap (·.2) ∧ ys.length = fs.size ∧
        ∀ (j : Nat) (f : Field), fs[j]? = some f → ∃ (v : Value) (y : DataW H × List MemPlace), w.cell? (a.add (i * fs.size + j)) = some v ∧ ys[j]? = some y ∧ DataW.trod enc P w base spare held n f.type [v] = some y := by
  rcases open_slice ht h with h0 | ⟨a, len, cap, m, n, D, Pl, hcs, hb, hl, hm, hmm, hx, hi⟩
  · exact .inl h0
  · refine .inr ⟨a, len, cap, m, D, Pl, hcs, hb, hl, hm, hmm, by rw [hC] at hx; exact hx, fun i him => ?_⟩
    obtain ⟨cs', hc, ht'⟩ := hi i him
    rw [hC] at hc
    obtain ⟨ys, n', hn', hy, hlen, hyl, hf⟩ := DataW.trod_struct he ht'
    obtain ⟨_, hcl, hat⟩ := World.cells?_some hc
    simp only [Prod.mk.injEq] at hy
    refine ⟨ys, n', hy.1, hy.2, hyl, fun j f hj => ?_⟩
    obtain ⟨ho, hk⟩ := hone_of hone j f hj
    have hjl : j < fs.size := (Array.getElem?_eq_some_iff.1 hj).1
    have hcell := hat j hjl
    have hv : cs'[j]? = some (cs'[j]'(by omega)) := List.getElem?_eq_getElem (by omega)
    have h1 := hf j f hj
    rw [ho, hk] at h1
    have hone' : (cs'.drop j).take 1 = [cs'[j]'(by omega)] := by
      rw [List.drop_eq_getElem_cons (by omega)]
      rfl
    rw [hone'] at h1
    have hys : ys[j]? = some (ys[j]'(by omega)) := List.getElem?_eq_getElem (by omega)
    refine ⟨_, _, ?_, hys, h1.trans hys⟩
    rw [← Go.Deep.add_add, hcell, hv]
end

/-- What each entry is known to be. -/
def Fits (L : List LogR) : Prop := ∀ i, i < L.length → (Lit.int .i64 (lg L i).day).wf = true ∧ (lg L i).rope.size ≤ maxLen ∧ (Lit.int .i64 (lg L i).kind).wf = true ∧ (Lit.int .i64 (lg L i).runs).wf = true

theorem logs_of (w : World) (b off : Nat) (len : Nat) (h : ∀ i, i < len → ∃ r : LogR, (w.cell? ⟨b, off + i * 4, none⟩ = some (.int .i64 r.day) ∧ w.cell? ⟨b, off + i * 4 + 1, none⟩ = some (.string r.rope) ∧
      w.cell? ⟨b, off + i * 4 + 2, none⟩ = some (.int .i64 r.kind) ∧ w.cell? ⟨b, off + i * 4 + 3, none⟩ = some (.int .i64 r.runs)) ∧ (Lit.int .i64 r.day).wf = true ∧ r.rope.size ≤ maxLen ∧ (Lit.int .i64 r.kind).wf = true ∧ (Lit.int .i64 r.runs).wf = true) :
    ∃ L : List LogR, L.length = len ∧ Logs w.heap.size w (some ⟨b, off, none⟩) L ∧ Fits L := by
  have hc : ∀ i, ∃ r : LogR, i < len → (w.cell? ⟨b, off + i * 4, none⟩ = some (.int .i64 r.day) ∧ w.cell? ⟨b, off + i * 4 + 1, none⟩ = some (.string r.rope) ∧
      w.cell? ⟨b, off + i * 4 + 2, none⟩ = some (.int .i64 r.kind) ∧ w.cell? ⟨b, off + i * 4 + 3, none⟩ = some (.int .i64 r.runs)) ∧ (Lit.int .i64 r.day).wf = true ∧ r.rope.size ≤ maxLen ∧ (Lit.int .i64 r.kind).wf = true ∧ (Lit.int .i64 r.runs).wf = true := fun i => by
    by_cases hi : i < len
    · obtain ⟨r, hr⟩ := h i hi
      exact ⟨r, fun _ => hr⟩
    · exact ⟨⟨0, ⟨#[]⟩, 0, 0⟩, fun h => absurd h hi⟩
  obtain ⟨f, hf⟩ := Classical.axiomOfChoice hc
  have e : ∀ i, i < len → lg ((List.range len).map f) i = f i := fun i hi => by
    unfold lg
    rw [List.getElem?_map, List.getElem?_range hi]
    rfl
  refine ⟨(List.range len).map f, by simp, fun hl => ⟨b, off, rfl, ?_, fun i hi => ?_⟩, fun i hi => ?_⟩
  · have := (hf 0 (by simpa using hl)).1.1
    exact World.block_lt_of_cell? w _ this
  · rw [e i (by simpa using hi)]
    exact (hf i (by simpa using hi)).1
  · rw [e i (by simpa using hi)]
    exact (hf i (by simpa using hi)).2

theorem open_logs {H : Type} {enc : TypeId × Value → H} {W : World} {base : Nat} {v : Value} {d : DataW H} {p : List MemPlace} (hv : Value.okWide Tryd.prog W .any base 35 v) (h : DataW.Trod enc Tryd.prog W 0 (fun _ => true) true 35 v d p) :
    ∃ (a : Option Addr) (cap : Nat) (L : List LogR), v = .slice a L.length cap ∧ Logs W.heap.size W a L ∧ Fits L ∧ L.length ≤ cap ∧ cap ≤ maxLen ∧ (a = none → cap = 0) := by
  obtain ⟨a0, len0, cap0, rfl⟩ := okWide_slice Tryd.underlying35 hv
  obtain ⟨fuel, hf⟩ := h
  rcases open_slice_fields Tryd.underlying35 Tryd.underlying55 (by kernel_rfl) (by kernel_rfl) hf with ⟨hcs, _⟩ | ⟨a, len, cap, m, D, Pl, hcs, _, hl, hm, hmm, _, hi⟩
  · simp only [Value.cells, List.cons.injEq, Value.slice.injEq, and_true] at hcs
    obtain ⟨rfl, rfl, rfl⟩ := hcs
    exact ⟨none, 0, [], rfl, fun h => absurd h (Nat.not_lt_zero _), fun i h => absurd h (Nat.not_lt_zero _), Nat.le_refl _, by unfold maxLen; omega, fun _ => rfl⟩
  · simp only [Value.cells, List.cons.injEq, Value.slice.injEq, and_true] at hcs
    obtain ⟨rfl, rfl, rfl⟩ := hcs
    obtain rfl : m = cap0 := by simpa using hmm
    rcases Nat.eq_zero_or_pos len0 with rfl | hpos
    · exact ⟨some a, m, [], rfl, fun h => absurd h (Nat.not_lt_zero _), fun i h => absurd h (Nat.not_lt_zero _), Nat.zero_le _, hm, fun h => by cases h⟩
    · obtain ⟨b, off, spot⟩ := a
      have hspot : spot = none := by
        obtain ⟨ys, n, _, _, _, hfld⟩ := hi 0 (by omega)
        obtain ⟨v, y, hcell, _, _⟩ := hfld 0 _ rfl
        simpa [Addr.add] using World.cell?_spot hcell
      subst hspot
      obtain ⟨L, hL, hLogs, hFit⟩ := logs_of W b off len0 fun i hil => by
        obtain ⟨ys, n, _, _, _, hfld⟩ := hi i (by omega)
        obtain ⟨v0, y0, c0, _, t0⟩ := hfld 0 _ rfl
        obtain ⟨v1, y1, c1, _, t1⟩ := hfld 1 _ rfl
        obtain ⟨v2, y2, c2, _, t2⟩ := hfld 2 _ rfl
        obtain ⟨v3, y3, c3, _, t3⟩ := hfld 3 _ rfl
        obtain ⟨n0, e0, _, w0⟩ := DataW.trod_int Tryd.underlying3 t0
        obtain ⟨n1, e1, _, w1⟩ := DataW.trod_string Tryd.underlying9 t1
        obtain ⟨n2, e2, _, w2⟩ := DataW.trod_int Tryd.underlying3 t2
        obtain ⟨n3, e3, _, w3⟩ := DataW.trod_int Tryd.underlying3 t3
        simp only [List.cons.injEq, and_true] at e0 e1 e2 e3
        subst e0 e1 e2 e3
        rw [Go.WideShapes.add_plain] at c0 c1 c2 c3
        exact ⟨⟨n0, n1, n2, n3⟩, ⟨c0, by rw [Nat.add_assoc]; exact c1, by rw [Nat.add_assoc]; exact c2, by rw [Nat.add_assoc]; exact c3⟩, w0, w1, w2, w3⟩
      subst hL
      exact ⟨_, m, L, rfl, hLogs, hFit, hl, hm, fun h => by cases h⟩
end Go.Proofs.YtfojipgbenbigaaDoor
