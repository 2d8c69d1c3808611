/-
  THE WALKS of slices.Clone at []api.Finding, and of the closures of the law InspectFinds.
-/
import Derived.Test.YtfojipgbenbigaaDoorDelF
namespace Go.Proofs.YtfojipgbenbigaaDoor
open Go.RowKit Go.Shelf

theorem fin_len (L : List (Int × ByteArray)) : (flat L).length = L.length * 2 := by
  induction L with
  | nil => rfl
  | cons x r ih =>
    have e : flat (x :: r) = .int .i64 x.1 :: .string x.2 :: flat r := rfl
    rw [e]
    simp only [List.length_cons, ih]
    omega
theorem fin_one (L : List (Int × ByteArray)) : ∀ u ∈ flat L, u.oneCell' = true := by
  induction L with
  | nil => intro u hu; cases hu
  | cons x r ih =>
    have e : flat (x :: r) = .int .i64 x.1 :: .string x.2 :: flat r := rfl
    rw [e]
    intro u hu
    simp only [List.mem_cons] at hu
    rcases hu with rfl | rfl | hu
    · rfl
    · rfl
    · exact ih u hu
/-- A slice of records: its cells, one behind the other. -/
theorem fin_cells {n₀ : Nat} {w : World} {b off : Nat} {L : List (Int × ByteArray)} (h : Finds n₀ w (some ⟨b, off, none⟩) L) : ∀ j u, (flat L)[j]? = some u → w.cell? ((⟨b, off, none⟩ : Addr).add j) = some u := by
  intro j u hj
  have hlt : j < L.length * 2 := by
    rw [← fin_len]
    exact (List.getElem?_eq_some_iff.1 hj).1
  obtain ⟨b', off', e, _, hc⟩ := h (by omega)
  simp only [Option.some.injEq, Addr.mk.injEq, and_true] at e
  obtain ⟨rfl, rfl⟩ := e
  obtain ⟨f0, f1⟩ := flat_at L (j / 2) (by omega)
  obtain ⟨c0, c1⟩ := hc (j / 2) (by omega)
  rw [Go.WideShapes.add_plain]
  rcases (show j = j / 2 * 2 ∨ j = j / 2 * 2 + 1 by omega) with e | e
  · first | (rw [e, f0] at hj; rw [e, c0]; exact hj) | (rw [e, f0] at hj; rw [e, ← Nat.add_assoc, c0]; exact hj)
  · first | (rw [e, f1] at hj; rw [e, c1]; exact hj) | (rw [e, f1] at hj; rw [e, ← Nat.add_assoc, c1]; exact hj)
theorem fin_info : (Tryd.prog.info? 43).map (fun i => (i.zero, i.size, i.bytes)) = some (some (.agg #[.int .i64 0, .string ⟨#[]⟩]), 2, 24) := by kernel_rfl

set_option maxHeartbeats 2000000 in
theorem fin_clone (a : Option Addr) (L : List (Int × ByteArray)) (cap : Nat) (w : World) (hlen : L.length ≤ 1100) (hnil : a = none → cap = 0) (hI : Finds w.heap.size w a L) :
    Calls Tryd.prog 37 #[.slice a L.length cap] w fun e w' => Hid (∃ v, e = .returned v ∧ w'.ownsRow w.heap.size 43 2 v L.length (flat L) ∧ Below w.heap.size w w') := by
  obtain ⟨i0, hi, hz0, hz1, hz2⟩ := info_parts fin_info
  cases a with
  | none =>
    have h0 : L.length = 0 := by
      rcases Nat.eq_zero_or_pos L.length with h | h
      · exact h
      · obtain ⟨b, off, e, _⟩ := hI h
        cases e
    obtain rfl : L = [] := List.eq_nil_of_length_eq_zero h0
    obtain rfl := hnil rfl
    clear hI h0 hnil
    have hne := fun (w : World) => Lib.run_eql_slice_nil (P := Tryd.prog) w 37 43 none 0 0 0 0 Tryd.underlying37
    go_enter Tryd.func37, Tryd.ntmps37
    go_wp2
    go_ret
    exact Lib.hid ⟨_, rfl, World.ownsRow_nil _ _ _ _, Below.refl _ _⟩
  | some ad =>
    have HI := Lib.hid hI; clear hI
    have hne := fun (w : World) => Lib.run_eql_slice_nil (P := Tryd.prog) w 37 43 (some ad) L.length cap 0 0 Tryd.underlying37
    have hnews : ∀ j u, (flat L)[j]? = some u → (w.alloc (.cells #[] 43)).cell? (ad.add j) = some u := fun j u hj => by
      have hlt : j < L.length * 2 := by
        rw [← fin_len]
        exact (List.getElem?_eq_some_iff.1 hj).1
      obtain ⟨b, off, e, _⟩ := HI.out (by omega)
      cases e
      have h1 := fin_cells HI.out j u hj
      rw [Go.WideShapes.add_plain] at h1 ⊢
      exact (World.cell?_alloc_lt _ _ _ (World.block_lt_of_cell? w _ h1)).trans h1
    have HN := Lib.hid hnews; clear hnews
    go_enter Tryd.func37, Tryd.ntmps37
    go_wp2_with (at_builtin; refine wpList_append_own _ rfl _ _ 37 rfl w.heap.size 43 i0 (.agg #[.int .i64 0, .string ⟨#[]⟩]) 2 24 Tryd.underlying37 hi hz0 hz1 hz2 rfl (by decide) _ 0 [] rfl (World.ownsRow_lit w #[] 0 (Nat.le_refl _) (by unfold maxLen; omega) rfl) ad L.length cap (flat L) rfl (fin_len L) HN.out (fin_one L) (by unfold maxLen; omega) (by omega) (by simp) ?_; intro v' w1 hown1 hgrow1 _)
    go_ret
    rw [Nat.zero_add, List.nil_append] at hown1
    exact Lib.hid ⟨_, rfl, hown1, ((Below.refl _ w).alloc (Nat.le_refl _) _).grown hgrow1 (by simp) (fun k e => by cases e; exact Nat.le_refl _)⟩

set_option maxHeartbeats 1000000 in
theorem asks_f1 (bx : Nat) (s : ByteArray) (n₀ : Nat) (w : World) (hbx : bx < n₀) (hc : w.cell? ⟨bx, 1, none⟩ = some (.string s)) :
    AsksF 31 #[.pointer (some ⟨bx, 0, none⟩)] n₀ w (fun r => decide (r.2 = s)) := by
  intro W r hB
  have hc' := (hB.cell (p := ⟨bx, 1, none⟩) hbx).trans hc
  have hc2 : ∀ o', (W.alloc o').cell? ⟨bx, 1, none⟩ = some (.string s) := fun o' => ((Below.refl W.heap.size W).alloc (Nat.le_refl _) o' |>.cell (p := ⟨bx, 1, none⟩) (World.block_lt_of_cell? W _ hc')).trans hc'
  have H := Lib.hid (str_eq r.2 s)
  show Calls _ _ #[finV r, .pointer (some ⟨bx, 0, none⟩)] _ _
  unfold finV
  go_enter Tryd.func31, Tryd.ntmps31
  go_wp2
  go_ret
  exact ⟨ret_bool H.out, (Below.refl _ _).alloc (Nat.le_refl _) _⟩

set_option maxHeartbeats 1000000 in
theorem asks_f2 (bx : Nat) (s : ByteArray) (n₀ : Nat) (w : World) (hbx : bx < n₀) (hc : w.cell? ⟨bx, 1, none⟩ = some (.string s)) :
    AsksF 33 #[.pointer (some ⟨bx, 0, none⟩)] n₀ w (fun r => decide (r.2 = s)) := by
  intro W r hB
  have hc' := (hB.cell (p := ⟨bx, 1, none⟩) hbx).trans hc
  have hc2 : ∀ o', (W.alloc o').cell? ⟨bx, 1, none⟩ = some (.string s) := fun o' => ((Below.refl W.heap.size W).alloc (Nat.le_refl _) o' |>.cell (p := ⟨bx, 1, none⟩) (World.block_lt_of_cell? W _ hc')).trans hc'
  have H := Lib.hid (str_eq r.2 s)
  show Calls _ _ #[finV r, .pointer (some ⟨bx, 0, none⟩)] _ _
  unfold finV
  go_enter Tryd.func33, Tryd.ntmps33
  go_wp2
  go_ret
  exact ⟨ret_bool H.out, (Below.refl _ _).alloc (Nat.le_refl _) _⟩

set_option maxHeartbeats 1000000 in
theorem asks_f3 (bx : Nat) (s : ByteArray) (n₀ : Nat) (w : World) (hbx : bx < n₀) (hc : w.cell? ⟨bx, 0, none⟩ = some (.string s)) :
    Asks 35 #[.pointer (some ⟨bx, 0, none⟩)] n₀ w (fun r => decide (r.rope = s)) := by
  intro W r hB
  have hc' := (hB.cell (p := ⟨bx, 0, none⟩) hbx).trans hc
  have hc2 : ∀ o', (W.alloc o').cell? ⟨bx, 0, none⟩ = some (.string s) := fun o' => ((Below.refl W.heap.size W).alloc (Nat.le_refl _) o' |>.cell (p := ⟨bx, 0, none⟩) (World.block_lt_of_cell? W _ hc')).trans hc'
  have H := Lib.hid (str_eq r.rope s)
  show Calls _ _ #[logV r, .pointer (some ⟨bx, 0, none⟩)] _ _
  unfold logV
  go_enter Tryd.func35, Tryd.ntmps35
  go_wp2
  go_ret
  exact ⟨ret_bool H.out, (Below.refl _ _).alloc (Nat.le_refl _) _⟩

set_option maxHeartbeats 1000000 in
theorem asks_f4 (bx : Nat) (s : ByteArray) (n₀ : Nat) (w : World) (hbx : bx < n₀) (hc : w.cell? ⟨bx, 0, none⟩ = some (.string s)) :
    AsksF 38 #[.pointer (some ⟨bx, 0, none⟩)] n₀ w (fun r => decide (r.2 = s)) := by
  intro W r hB
  have hc' := (hB.cell (p := ⟨bx, 0, none⟩) hbx).trans hc
  have hc2 : ∀ o', (W.alloc o').cell? ⟨bx, 0, none⟩ = some (.string s) := fun o' => ((Below.refl W.heap.size W).alloc (Nat.le_refl _) o' |>.cell (p := ⟨bx, 0, none⟩) (World.block_lt_of_cell? W _ hc')).trans hc'
  have H := Lib.hid (str_eq r.2 s)
  show Calls _ _ #[finV r, .pointer (some ⟨bx, 0, none⟩)] _ _
  unfold finV
  go_enter Tryd.func38, Tryd.ntmps38
  go_wp2
  go_ret
  exact ⟨ret_bool H.out, (Below.refl _ _).alloc (Nat.le_refl _) _⟩
end Go.Proofs.YtfojipgbenbigaaDoor
