/-
  THE WALK of slices.Clone at []api.Log: the same entries in memory of the call's own.
-/
import Derived.Test.YtfojipgbenbigaaDoorLawC
import Derived.Deep.AppendLies
import Derived.Deep.RegionLaw
import Derived.Deep.RegionLawGrows
namespace Go.Proofs.YtfojipgbenbigaaDoor
open Go.RowKit Go.Shelf

def lflat (L : List LogR) : List Value := L.flatMap fun r => [.int .i64 r.day, .string r.rope, .int .i64 r.kind, .int .i64 r.runs]
theorem lflat_at (L : List LogR) (i : Nat) (hi : i < L.length) : (lflat L)[i * 4]? = some (.int .i64 (lg L i).day) ∧ (lflat L)[i * 4 + 1]? = some (.string (lg L i).rope) ∧ (lflat L)[i * 4 + 2]? = some (.int .i64 (lg L i).kind) ∧ (lflat L)[i * 4 + 3]? = some (.int .i64 (lg L i).runs) := by
  induction L generalizing i with
  | nil => simp at hi
  | cons x r ih =>
    match i with
    | 0 => exact ⟨rfl, rfl, rfl, rfl⟩
    | i + 1 =>
      have := ih i (by simpa using hi)
      have e : lflat (x :: r) = .int .i64 x.day :: .string x.rope :: .int .i64 x.kind :: .int .i64 x.runs :: lflat r := rfl
      rw [e, show (i + 1) * 4 = i * 4 + 1 + 1 + 1 + 1 by omega]
      simpa [lg] using this
theorem lflat_len (L : List LogR) : (lflat L).length = L.length * 4 := by
  induction L with
  | nil => rfl
  | cons x r ih =>
    have e : lflat (x :: r) = .int .i64 x.day :: .string x.rope :: .int .i64 x.kind :: .int .i64 x.runs :: lflat r := rfl
    rw [e]
    simp only [List.length_cons, ih]
    omega
theorem lflat_one (L : List LogR) : ∀ u ∈ lflat L, u.oneCell' = true := by
  intro u hu
  unfold lflat at hu
  rw [List.mem_flatMap] at hu
  obtain ⟨r, _, hr⟩ := hu
  simp at hr
  rcases hr with rfl | rfl | rfl | rfl <;> rfl
theorem lflat_snoc (L : List LogR) (r : LogR) : lflat (L ++ [r]) = lflat L ++ [.int .i64 r.day, .string r.rope, .int .i64 r.kind, .int .i64 r.runs] := by simp [lflat]

/-- A slice of entries: its cells, one behind the other. -/
theorem logs_cells {n₀ : Nat} {w : World} {b off : Nat} {L : List LogR} (h : Logs n₀ w (some ⟨b, off, none⟩) L) : ∀ j u, (lflat L)[j]? = some u → w.cell? ((⟨b, off, none⟩ : Addr).add j) = some u := by
  intro j u hj
  have hlt : j < L.length * 4 := by
    rw [← lflat_len]
    exact (List.getElem?_eq_some_iff.1 hj).1
  obtain ⟨b', off', e, _, hc⟩ := h (by omega)
  simp only [Option.some.injEq, Addr.mk.injEq, and_true] at e
  obtain ⟨rfl, rfl⟩ := e
  obtain ⟨f0, f1, f2, f3⟩ := lflat_at L (j / 4) (by omega)
  obtain ⟨c0, c1, c2, c3⟩ := hc (j / 4) (by omega)
  rw [Go.WideShapes.add_plain]
  rcases (show j = j / 4 * 4 ∨ j = j / 4 * 4 + 1 ∨ j = j / 4 * 4 + 2 ∨ j = j / 4 * 4 + 3 by omega) with e | e | e | e
  · rw [e, f0] at hj; rw [e, c0]; exact hj
  · rw [e, f1] at hj; rw [e, ← Nat.add_assoc, c1]; exact hj
  · rw [e, f2] at hj; rw [e, ← Nat.add_assoc, c2]; exact hj
  · rw [e, f3] at hj; rw [e, ← Nat.add_assoc, c3]; exact hj
/-- A row of the call's own reads so. -/
theorem logs_of_row {w : World} {base : Nat} {v : Value} {L : List LogR} (h : w.ownsRow base 55 4 v L.length (lflat L)) : ∃ a cap, v = .slice a L.length cap ∧ L.length ≤ cap ∧ cap ≤ maxLen ∧ Logs w.heap.size w a L := by
  rcases h.2 with ⟨rfl, h0⟩ | ⟨g, cap, cur, rfl, hb, hg, h1, h2, _⟩
  · exact ⟨none, 0, by rw [h0], by omega, by unfold maxLen; omega, fun hl => by omega⟩
  · refine ⟨_, cap, rfl, h1, h2, fun _ => ⟨g, 0, rfl, (Array.getElem?_eq_some_iff.1 hg).1, fun i hi => ?_⟩⟩
    obtain ⟨f0, f1, f2, f3⟩ := lflat_at L i hi
    have c0 := h.cellAt (i * 4) (by omega)
    have c1 := h.cellAt (i * 4 + 1) (by omega)
    have c2 := h.cellAt (i * 4 + 2) (by omega)
    have c3 := h.cellAt (i * 4 + 3) (by omega)
    rw [f0] at c0; rw [f1] at c1; rw [f2] at c2; rw [f3] at c3
    rw [Nat.zero_add]
    exact ⟨c0, c1, c2, c3⟩

theorem infoL : (Tryd.prog.info? 55).map (fun i => (i.zero, i.size, i.bytes)) = some (some (.agg #[.int .i64 0, .string ⟨#[]⟩, .int .i64 0, .int .i64 0]), 4, 40) := by kernel_rfl

set_option maxHeartbeats 2000000 in
theorem clone_any (a : Option Addr) (L : List LogR) (cap : Nat) (w : World) (hlen : L.length ≤ 1100) (hnil : a = none → cap = 0) (hI : Logs w.heap.size w a L) :
    Calls Tryd.prog 29 #[.slice a L.length cap] w fun e w' => Hid (∃ v, e = .returned v ∧ w'.ownsRow w.heap.size 55 4 v L.length (lflat L) ∧ Below w.heap.size w w') := by
  obtain ⟨i0, hi, hz0, hz1, hz2⟩ := info_parts infoL
  cases a with
  | none =>
    have h0 : L.length = 0 := by
      rcases Nat.eq_zero_or_pos L.length with h | h
      · exact h
      · obtain ⟨b, off, e, _⟩ := hI h
        cases e
    obtain rfl : L = [] := List.eq_nil_of_length_eq_zero h0
    obtain rfl := hnil rfl
    clear hI h0 hnil
    have hne := fun (w : World) => Lib.run_eql_slice_nil (P := Tryd.prog) w 35 55 none 0 0 0 0 Tryd.underlying35
    go_enter Tryd.func29, Tryd.ntmps29
    go_wp2
    go_ret
    exact Lib.hid ⟨_, rfl, World.ownsRow_nil _ _ _ _, Below.refl _ _⟩
  | some ad =>
    have HI := Lib.hid hI; clear hI
    have hne := fun (w : World) => Lib.run_eql_slice_nil (P := Tryd.prog) w 35 55 (some ad) L.length cap 0 0 Tryd.underlying35
    have hnews : ∀ j u, (lflat L)[j]? = some u → (w.alloc (.cells #[] 55)).cell? (ad.add j) = some u := fun j u hj => by
      have hlt : j < L.length * 4 := by
        rw [← lflat_len]
        exact (List.getElem?_eq_some_iff.1 hj).1
      obtain ⟨b, off, e, _⟩ := HI.out (by omega)
      cases e
      have h1 := logs_cells HI.out j u hj
      rw [Go.WideShapes.add_plain] at h1 ⊢
      exact (World.cell?_alloc_lt _ _ _ (World.block_lt_of_cell? w _ h1)).trans h1
    have HN := Lib.hid hnews; clear hnews
    go_enter Tryd.func29, Tryd.ntmps29
    go_wp2_with (at_builtin; refine wpList_append_own _ rfl _ _ 35 rfl w.heap.size 55 i0 (.agg #[.int .i64 0, .string ⟨#[]⟩, .int .i64 0, .int .i64 0]) 4 40 Tryd.underlying35 hi hz0 hz1 hz2 rfl (by decide) _ 0 [] rfl (World.ownsRow_lit w #[] 0 (Nat.le_refl _) (by unfold maxLen; omega) rfl) ad L.length cap (lflat L) rfl (lflat_len L) HN.out (lflat_one L) (by unfold maxLen; omega) (by omega) (by simp) ?_; intro v' w1 hown1 hgrow1 _)
    go_ret
    rw [Nat.zero_add, List.nil_append] at hown1
    exact Lib.hid ⟨_, rfl, hown1, ((Below.refl _ w).alloc (Nat.le_refl _) _).grown hgrow1 (by simp) (fun k e => by cases e; exact Nat.le_refl _)⟩
end Go.Proofs.YtfojipgbenbigaaDoor
