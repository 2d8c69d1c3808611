/-
  THE WALKS of the sums of package quadratic: value, slope, result.
-/
import Derived.Test.YtlgpolfbilkmbaaQuad1
namespace Go.Proofs.Ytlgpolfbilkmbaa
open Go.RowKit Go.Shelf
set_option maxRecDepth 100000 in
set_option maxHeartbeats 8000000 in
theorem qvalue_any (b : Nat) (e : Int) (F A B C u : Int × Int) (vA : vF A = true) (vB : vF B = true) (vC : vF C = true) (vu : vF u = true) (w : World) (hc : w.cell? ⟨b, 0, none⟩ = some (.int .i64 e)) (hf : w.frozen? ⟨b, 0, none⟩ = false) :
    Calls Try.prog 60 #[.pointer (some ⟨b, 0, none⟩), .agg #[.int .i64 F.1, .int .i64 F.2, .int .i64 A.1, .int .i64 A.2, .int .i64 B.1, .int .i64 B.2, .int .i64 C.1, .int .i64 C.2], .agg #[.int .i64 u.1, .int .i64 u.2]] w fun z w' => z = .returned (.agg #[.int .i64 (kVal e A B C u).1.1, .int .i64 (kVal e A B C u).1.2]) ∧ Sm b (kVal e A B C u).2 w w' := by
  have hb : b < w.heap.size := World.block_lt_of_cell? _ _ hc
  obtain ⟨K1, hK1⟩ : ∃ K, kMul e C u = K := ⟨_, rfl⟩
  have vK1 : vF K1.1 = true := by rw [← hK1]; exact kMul_valid vC vu
  have HK1 : Hid (∀ w : World, w.cell? ⟨b, 0, none⟩ = some (.int .i64 e) → w.frozen? ⟨b, 0, none⟩ = false → Calls Try.prog 80 #[.pointer (some ⟨b, 0, none⟩), .agg #[.int .i64 C.1, .int .i64 C.2], .agg #[.int .i64 u.1, .int .i64 u.2]] w fun z w' => z = .returned (.agg #[.int .i64 K1.1.1, .int .i64 K1.1.2]) ∧ Sm b K1.2 w w') := Lib.hid fun w h0 h1 => by
    have := kmul_any b e C u vC vu w h0 h1
    rwa [hK1] at this
  obtain ⟨K2, hK2⟩ : ∃ K, kAdd K1.2 B K1.1 = K := ⟨_, rfl⟩
  have vK2 : vF K2.1 = true := by rw [← hK2]; exact kAdd_valid vB vK1
  have HK2 : Hid (∀ w : World, w.cell? ⟨b, 0, none⟩ = some (.int .i64 K1.2) → w.frozen? ⟨b, 0, none⟩ = false → Calls Try.prog 79 #[.pointer (some ⟨b, 0, none⟩), .agg #[.int .i64 B.1, .int .i64 B.2], .agg #[.int .i64 K1.1.1, .int .i64 K1.1.2]] w fun z w' => z = .returned (.agg #[.int .i64 K2.1.1, .int .i64 K2.1.2]) ∧ Sm b K2.2 w w') := Lib.hid fun w h0 h1 => by
    have := kadd_any b K1.2 B K1.1 vB vK1 w h0 h1
    rwa [hK2] at this
  obtain ⟨K3, hK3⟩ : ∃ K, kMul K2.2 K2.1 u = K := ⟨_, rfl⟩
  have vK3 : vF K3.1 = true := by rw [← hK3]; exact kMul_valid vK2 vu
  have HK3 : Hid (∀ w : World, w.cell? ⟨b, 0, none⟩ = some (.int .i64 K2.2) → w.frozen? ⟨b, 0, none⟩ = false → Calls Try.prog 80 #[.pointer (some ⟨b, 0, none⟩), .agg #[.int .i64 K2.1.1, .int .i64 K2.1.2], .agg #[.int .i64 u.1, .int .i64 u.2]] w fun z w' => z = .returned (.agg #[.int .i64 K3.1.1, .int .i64 K3.1.2]) ∧ Sm b K3.2 w w') := Lib.hid fun w h0 h1 => by
    have := kmul_any b K2.2 K2.1 u vK2 vu w h0 h1
    rwa [hK3] at this
  obtain ⟨K4, hK4⟩ : ∃ K, kAdd K3.2 A K3.1 = K := ⟨_, rfl⟩
  have vK4 : vF K4.1 = true := by rw [← hK4]; exact kAdd_valid vA vK3
  have HK4 : Hid (∀ w : World, w.cell? ⟨b, 0, none⟩ = some (.int .i64 K3.2) → w.frozen? ⟨b, 0, none⟩ = false → Calls Try.prog 79 #[.pointer (some ⟨b, 0, none⟩), .agg #[.int .i64 A.1, .int .i64 A.2], .agg #[.int .i64 K3.1.1, .int .i64 K3.1.2]] w fun z w' => z = .returned (.agg #[.int .i64 K4.1.1, .int .i64 K4.1.2]) ∧ Sm b K4.2 w w') := Lib.hid fun w h0 h1 => by
    have := kadd_any b K3.2 A K3.1 vA vK3 w h0 h1
    rwa [hK4] at this
  have HR : Hid (kVal e A B C u = K4) := Lib.hid (by
    unfold kVal
    simp only [hK1, hK2, hK3, hK4])
  rw [HR.out]
  clear hK1 vK1 hK2 vK2 hK3 vK3 hK4 vK4 vB vC vu vA
  go_enter Try.func60, Try.ntmps60
  go_upto_region 1 with (fail)
  have hW0 : Below w.heap.size w (((w.alloc (.cells #[.int .i64 F.1, .int .i64 F.2, .int .i64 A.1, .int .i64 A.2, .int .i64 B.1, .int .i64 B.2, .int .i64 C.1, .int .i64 C.2] 70)).alloc (.cells #[.int .i64 u.1, .int .i64 u.2] 39)).alloc (.cells #[.int .i64 0, .int .i64 0] 39)) := ((below_new _ _).alloc (by simp) _).alloc (by simp <;> omega) _
  have hz : w.heap.size + 1 + 1 < (((w.alloc (.cells #[.int .i64 F.1, .int .i64 F.2, .int .i64 A.1, .int .i64 A.2, .int .i64 B.1, .int .i64 B.2, .int .i64 C.1, .int .i64 C.2] 70)).alloc (.cells #[.int .i64 u.1, .int .i64 u.2] 39)).alloc (.cells #[.int .i64 0, .int .i64 0] 39)).heap.size := by simp
  have k0 : (((w.alloc (.cells #[.int .i64 F.1, .int .i64 F.2, .int .i64 A.1, .int .i64 A.2, .int .i64 B.1, .int .i64 B.2, .int .i64 C.1, .int .i64 C.2] 70)).alloc (.cells #[.int .i64 u.1, .int .i64 u.2] 39)).alloc (.cells #[.int .i64 0, .int .i64 0] 39)).cell? ⟨w.heap.size, 2, none⟩ = some (.int .i64 A.1) := by simp [go_sem, World.cell?_alloc_past]
  have k1 : (((w.alloc (.cells #[.int .i64 F.1, .int .i64 F.2, .int .i64 A.1, .int .i64 A.2, .int .i64 B.1, .int .i64 B.2, .int .i64 C.1, .int .i64 C.2] 70)).alloc (.cells #[.int .i64 u.1, .int .i64 u.2] 39)).alloc (.cells #[.int .i64 0, .int .i64 0] 39)).cell? ⟨w.heap.size, 3, none⟩ = some (.int .i64 A.2) := by simp [go_sem, World.cell?_alloc_past]
  have k2 : (((w.alloc (.cells #[.int .i64 F.1, .int .i64 F.2, .int .i64 A.1, .int .i64 A.2, .int .i64 B.1, .int .i64 B.2, .int .i64 C.1, .int .i64 C.2] 70)).alloc (.cells #[.int .i64 u.1, .int .i64 u.2] 39)).alloc (.cells #[.int .i64 0, .int .i64 0] 39)).cell? ⟨w.heap.size, 4, none⟩ = some (.int .i64 B.1) := by simp [go_sem, World.cell?_alloc_past]
  have k3 : (((w.alloc (.cells #[.int .i64 F.1, .int .i64 F.2, .int .i64 A.1, .int .i64 A.2, .int .i64 B.1, .int .i64 B.2, .int .i64 C.1, .int .i64 C.2] 70)).alloc (.cells #[.int .i64 u.1, .int .i64 u.2] 39)).alloc (.cells #[.int .i64 0, .int .i64 0] 39)).cell? ⟨w.heap.size, 5, none⟩ = some (.int .i64 B.2) := by simp [go_sem, World.cell?_alloc_past]
  have k4 : (((w.alloc (.cells #[.int .i64 F.1, .int .i64 F.2, .int .i64 A.1, .int .i64 A.2, .int .i64 B.1, .int .i64 B.2, .int .i64 C.1, .int .i64 C.2] 70)).alloc (.cells #[.int .i64 u.1, .int .i64 u.2] 39)).alloc (.cells #[.int .i64 0, .int .i64 0] 39)).cell? ⟨w.heap.size, 6, none⟩ = some (.int .i64 C.1) := by simp [go_sem, World.cell?_alloc_past]
  have k5 : (((w.alloc (.cells #[.int .i64 F.1, .int .i64 F.2, .int .i64 A.1, .int .i64 A.2, .int .i64 B.1, .int .i64 B.2, .int .i64 C.1, .int .i64 C.2] 70)).alloc (.cells #[.int .i64 u.1, .int .i64 u.2] 39)).alloc (.cells #[.int .i64 0, .int .i64 0] 39)).cell? ⟨w.heap.size, 7, none⟩ = some (.int .i64 C.2) := by simp [go_sem, World.cell?_alloc_past]
  have k6 : (((w.alloc (.cells #[.int .i64 F.1, .int .i64 F.2, .int .i64 A.1, .int .i64 A.2, .int .i64 B.1, .int .i64 B.2, .int .i64 C.1, .int .i64 C.2] 70)).alloc (.cells #[.int .i64 u.1, .int .i64 u.2] 39)).alloc (.cells #[.int .i64 0, .int .i64 0] 39)).cell? ⟨w.heap.size + 1, 0, none⟩ = some (.int .i64 u.1) := by simp [go_sem]
  have k7 : (((w.alloc (.cells #[.int .i64 F.1, .int .i64 F.2, .int .i64 A.1, .int .i64 A.2, .int .i64 B.1, .int .i64 B.2, .int .i64 C.1, .int .i64 C.2] 70)).alloc (.cells #[.int .i64 u.1, .int .i64 u.2] 39)).alloc (.cells #[.int .i64 0, .int .i64 0] 39)).cell? ⟨w.heap.size + 1, 1, none⟩ = some (.int .i64 u.2) := by simp [go_sem]
  have k8 : (((w.alloc (.cells #[.int .i64 F.1, .int .i64 F.2, .int .i64 A.1, .int .i64 A.2, .int .i64 B.1, .int .i64 B.2, .int .i64 C.1, .int .i64 C.2] 70)).alloc (.cells #[.int .i64 u.1, .int .i64 u.2] 39)).alloc (.cells #[.int .i64 0, .int .i64 0] 39)).cell? ⟨w.heap.size + 1 + 1, 0, none⟩ = some (.int .i64 0) := by simp [go_sem]
  have k9 : (((w.alloc (.cells #[.int .i64 F.1, .int .i64 F.2, .int .i64 A.1, .int .i64 A.2, .int .i64 B.1, .int .i64 B.2, .int .i64 C.1, .int .i64 C.2] 70)).alloc (.cells #[.int .i64 u.1, .int .i64 u.2] 39)).alloc (.cells #[.int .i64 0, .int .i64 0] 39)).cell? ⟨w.heap.size + 1 + 1, 1, none⟩ = some (.int .i64 0) := by simp [go_sem]
  have f0 : (((w.alloc (.cells #[.int .i64 F.1, .int .i64 F.2, .int .i64 A.1, .int .i64 A.2, .int .i64 B.1, .int .i64 B.2, .int .i64 C.1, .int .i64 C.2] 70)).alloc (.cells #[.int .i64 u.1, .int .i64 u.2] 39)).alloc (.cells #[.int .i64 0, .int .i64 0] 39)).frozen? ⟨w.heap.size + 1 + 1, 0, none⟩ = false := by simp [go_sem]
  have f1 : (((w.alloc (.cells #[.int .i64 F.1, .int .i64 F.2, .int .i64 A.1, .int .i64 A.2, .int .i64 B.1, .int .i64 B.2, .int .i64 C.1, .int .i64 C.2] 70)).alloc (.cells #[.int .i64 u.1, .int .i64 u.2] 39)).alloc (.cells #[.int .i64 0, .int .i64 0] 39)).frozen? ⟨w.heap.size + 1 + 1, 1, none⟩ = false := by simp [go_sem]
  have hs0 := Sm.of hW0 hc hf
  have hc0 := hs0.cell
  have hf0 := hs0.free
  generalize (((w.alloc (.cells #[.int .i64 F.1, .int .i64 F.2, .int .i64 A.1, .int .i64 A.2, .int .i64 B.1, .int .i64 B.2, .int .i64 C.1, .int .i64 C.2] 70)).alloc (.cells #[.int .i64 u.1, .int .i64 u.2] 39)).alloc (.cells #[.int .i64 0, .int .i64 0] 39)) = W0 at *
  have HX : Hid (∀ x w', Sm b x W0 w' → w.heap.size ≤ w'.heap.size ∧ w'.cell? ⟨w.heap.size, 2, none⟩ = some (.int .i64 A.1) ∧ w'.cell? ⟨w.heap.size, 3, none⟩ = some (.int .i64 A.2) ∧ w'.cell? ⟨w.heap.size, 4, none⟩ = some (.int .i64 B.1) ∧ w'.cell? ⟨w.heap.size, 5, none⟩ = some (.int .i64 B.2) ∧ w'.cell? ⟨w.heap.size, 6, none⟩ = some (.int .i64 C.1) ∧ w'.cell? ⟨w.heap.size, 7, none⟩ = some (.int .i64 C.2) ∧ w'.cell? ⟨w.heap.size + 1, 0, none⟩ = some (.int .i64 u.1) ∧ w'.cell? ⟨w.heap.size + 1, 1, none⟩ = some (.int .i64 u.2)) := Lib.hid fun x w' h =>
    ⟨Nat.le_trans hW0.size h.size, (h.other (p := ⟨w.heap.size, 2, none⟩) (by simp <;> omega) (by simp <;> omega)).trans k0, (h.other (p := ⟨w.heap.size, 3, none⟩) (by simp <;> omega) (by simp <;> omega)).trans k1, (h.other (p := ⟨w.heap.size, 4, none⟩) (by simp <;> omega) (by simp <;> omega)).trans k2, (h.other (p := ⟨w.heap.size, 5, none⟩) (by simp <;> omega) (by simp <;> omega)).trans k3, (h.other (p := ⟨w.heap.size, 6, none⟩) (by simp <;> omega) (by simp <;> omega)).trans k4, (h.other (p := ⟨w.heap.size, 7, none⟩) (by simp <;> omega) (by simp <;> omega)).trans k5, (h.other (p := ⟨w.heap.size + 1, 0, none⟩) (by simp <;> omega) (by simp <;> omega)).trans k6, (h.other (p := ⟨w.heap.size + 1, 1, none⟩) (by simp <;> omega) (by simp <;> omega)).trans k7⟩
  have HY : Hid (∀ x w', Sm b x W0 w' → w'.cell? ⟨w.heap.size + 1 + 1, 0, none⟩ = some (.int .i64 0) ∧ w'.cell? ⟨w.heap.size + 1 + 1, 1, none⟩ = some (.int .i64 0) ∧ w'.frozen? ⟨w.heap.size + 1 + 1, 0, none⟩ = false ∧ w'.frozen? ⟨w.heap.size + 1 + 1, 1, none⟩ = false) := Lib.hid fun x w' h =>
    ⟨(h.other (p := ⟨w.heap.size + 1 + 1, 0, none⟩) (by simp <;> omega) (by simp <;> omega)).trans k8, (h.other (p := ⟨w.heap.size + 1 + 1, 1, none⟩) (by simp <;> omega) (by simp <;> omega)).trans k9, (h.otherF (p := ⟨w.heap.size + 1 + 1, 0, none⟩) (by simp <;> omega) (by simp <;> omega)).trans f0, (h.otherF (p := ⟨w.heap.size + 1 + 1, 1, none⟩) (by simp <;> omega) (by simp <;> omega)).trans f1⟩
  have hbz : b < W0.heap.size := by omega
  have HZ : Hid (∀ x w', Sm b x W0 w' → ∀ v0 v1, (fun w' => w.heap.size ≤ w'.heap.size ∧ w'.cell? ⟨w.heap.size, 2, none⟩ = some (.int .i64 A.1) ∧ w'.cell? ⟨w.heap.size, 3, none⟩ = some (.int .i64 A.2) ∧ w'.cell? ⟨w.heap.size, 4, none⟩ = some (.int .i64 B.1) ∧ w'.cell? ⟨w.heap.size, 5, none⟩ = some (.int .i64 B.2) ∧ w'.cell? ⟨w.heap.size, 6, none⟩ = some (.int .i64 C.1) ∧ w'.cell? ⟨w.heap.size, 7, none⟩ = some (.int .i64 C.2) ∧ w'.cell? ⟨w.heap.size + 1, 0, none⟩ = some (.int .i64 u.1) ∧ w'.cell? ⟨w.heap.size + 1, 1, none⟩ = some (.int .i64 u.2)) ((w'.setCell ⟨w.heap.size + 1 + 1, 0, none⟩ v0).setCell ⟨w.heap.size + 1 + 1, 1, none⟩ v1)) := Lib.hid fun x w' h v0 v1 => by
    obtain ⟨h0, h1, h2, h3, h4, h5, h6, h7, h8⟩ := HX.out x w' h
    refine ⟨by simpa using h0, ?_, ?_, ?_, ?_, ?_, ?_, ?_, ?_⟩
    all_goals (refine (two_other (by omega) _ _ _).trans ?_; assumption)
  have hsd : Sm b e W0 W0.drew := (Sm.refl hc0 hf0).drew
  clear hc hf hc0 hf0 hs0 f0 f1 k0 k1 k2 k3 k4 k5 k6 k7 k8 k9
  refine wp_region_held_drew (S := (fun w' => w.heap.size ≤ w'.heap.size ∧ w'.cell? ⟨w.heap.size, 2, none⟩ = some (.int .i64 A.1) ∧ w'.cell? ⟨w.heap.size, 3, none⟩ = some (.int .i64 A.2) ∧ w'.cell? ⟨w.heap.size, 4, none⟩ = some (.int .i64 B.1) ∧ w'.cell? ⟨w.heap.size, 5, none⟩ = some (.int .i64 B.2) ∧ w'.cell? ⟨w.heap.size, 6, none⟩ = some (.int .i64 C.1) ∧ w'.cell? ⟨w.heap.size, 7, none⟩ = some (.int .i64 C.2) ∧ w'.cell? ⟨w.heap.size + 1, 0, none⟩ = some (.int .i64 u.1) ∧ w'.cell? ⟨w.heap.size + 1, 1, none⟩ = some (.int .i64 u.2))) (by kernel_rfl) (HX.out _ _ hsd) (fun hHeld => ?_)
  refine wpAnyH_take (i := 0) (oi := _) (v := ?_) rfl (by kernel_rfl) (by kernel_rfl) (by kernel_rfl) (fun _ _ _ h => h) (Or.inl ⟨by rfl, ?_⟩) (by assumption) ?_
  rotate_left
  · (intro w hSw; (try dsimp only at hSw); (try simp only [List.getElem_toArray, List.getElem_cons_zero]); go_simp; try with_reducible rfl)
  simp only [Act.put, List.setIfInBounds_toArray, List.set_cons_zero, List.set_cons_succ, List.getElem_toArray, List.getElem_cons_zero]
  refine wpAnyH_take (i := 1) (oi := _) (v := ?_) rfl (by kernel_rfl) (by kernel_rfl) (by kernel_rfl) (fun _ _ _ h => h) (Or.inl ⟨by rfl, ?_⟩) (by assumption) ?_
  rotate_left
  · (intro w hSw; (try dsimp only at hSw); (try simp only [List.getElem_toArray, List.getElem_cons_succ, List.getElem_cons_zero]); go_simp; try with_reducible rfl)
  simp only [Act.put, List.setIfInBounds_toArray, List.set_cons_zero, List.set_cons_succ, List.getElem_toArray, List.getElem_cons_succ, List.getElem_cons_zero]
  refine wpAnyH_take (i := 2) (oi := _) (v := ?_) rfl (by kernel_rfl) (by kernel_rfl) (by kernel_rfl) (fun _ _ _ h => h) (Or.inl ⟨by rfl, ?_⟩) (by assumption) ?_
  rotate_left
  · (intro w hSw; (try dsimp only at hSw); (try simp only [List.getElem_toArray, List.getElem_cons_succ, List.getElem_cons_zero]); go_simp; try with_reducible rfl)
  simp only [Act.put, List.setIfInBounds_toArray, List.set_cons_zero, List.set_cons_succ, List.getElem_toArray, List.getElem_cons_succ, List.getElem_cons_zero]
  refine wpAnyH_take (i := 3) (oi := _) (v := ?_) rfl (by kernel_rfl) (by kernel_rfl) (by kernel_rfl) (fun _ _ _ h => h) (Or.inl ⟨by rfl, ?_⟩) (by assumption) ?_
  rotate_left
  · (intro w hSw; (try dsimp only at hSw); (try simp only [List.getElem_toArray, List.getElem_cons_succ, List.getElem_cons_zero]); go_simp; try with_reducible rfl)
  simp only [Act.put, List.setIfInBounds_toArray, List.set_cons_zero, List.set_cons_succ, List.getElem_toArray, List.getElem_cons_succ, List.getElem_cons_zero]
  refine wpAnyH_take (i := 4) (oi := _) (v := ?_) rfl (by kernel_rfl) (by kernel_rfl) (by kernel_rfl) (fun _ _ _ h => h) (Or.inl ⟨by rfl, ?_⟩) (by assumption) ?_
  rotate_left
  · (intro w hSw; (try dsimp only at hSw); (try simp only [List.getElem_toArray, List.getElem_cons_succ, List.getElem_cons_zero]); go_simp; try with_reducible rfl)
  simp only [Act.put, List.setIfInBounds_toArray, List.set_cons_zero, List.set_cons_succ, List.getElem_toArray, List.getElem_cons_succ, List.getElem_cons_zero]
  refine wpAnyH_take (i := 5) (oi := _) (v := ?_) rfl (by kernel_rfl) (by kernel_rfl) (by kernel_rfl) (fun _ _ _ h => h) (Or.inl ⟨by rfl, ?_⟩) (by assumption) ?_
  rotate_left
  · (intro w hSw; (try dsimp only at hSw); (try simp only [List.getElem_toArray, List.getElem_cons_succ, List.getElem_cons_zero]); go_simp; try with_reducible rfl)
  simp only [Act.put, List.setIfInBounds_toArray, List.set_cons_zero, List.set_cons_succ, List.getElem_toArray, List.getElem_cons_succ, List.getElem_cons_zero]
  refine wpAnyH_take (i := 6) (oi := _) (v := ?_) rfl (by kernel_rfl) (by kernel_rfl) (by kernel_rfl) (fun _ _ _ h => h) (Or.inl ⟨by rfl, ?_⟩) (by assumption) ?_
  rotate_left
  · (intro w hSw; (try dsimp only at hSw); (try simp only [List.getElem_toArray, List.getElem_cons_succ, List.getElem_cons_zero]); go_simp; try with_reducible rfl)
  simp only [Act.put, List.setIfInBounds_toArray, List.set_cons_zero, List.set_cons_succ, List.getElem_toArray, List.getElem_cons_succ, List.getElem_cons_zero]
  refine wpAnyH_take (i := 7) (oi := _) (v := ?_) rfl (by kernel_rfl) (by kernel_rfl) (by kernel_rfl) (fun _ _ _ h => h) (Or.inl ⟨by rfl, ?_⟩) (by assumption) ?_
  rotate_left
  · (intro w hSw; (try dsimp only at hSw); (try simp only [List.getElem_toArray, List.getElem_cons_succ, List.getElem_cons_zero]); go_simp; try with_reducible rfl)
  simp only [Act.put, List.setIfInBounds_toArray, List.set_cons_zero, List.set_cons_succ, List.getElem_toArray, List.getElem_cons_succ, List.getElem_cons_zero]
  refine wpAnyH_take (i := 8) (oi := _) (v := ?_) rfl (by kernel_rfl) (by kernel_rfl) (by kernel_rfl) (fun _ _ _ h => h) (Or.inl ⟨by rfl, ?_⟩) (by assumption) ?_
  rotate_left
  · (intro w hSw; (try dsimp only at hSw); (try simp only [List.getElem_toArray, List.getElem_cons_succ, List.getElem_cons_zero]); go_simp; try with_reducible rfl)
  simp only [Act.put, List.setIfInBounds_toArray, List.set_cons_zero, List.set_cons_succ, List.getElem_toArray, List.getElem_cons_succ, List.getElem_cons_zero]
  refine wpAnyH_take (i := 9) (oi := _) (v := ?_) rfl (by kernel_rfl) (by kernel_rfl) (by kernel_rfl) (fun _ _ _ h => h) (Or.inl ⟨by rfl, ?_⟩) (by assumption) ?_
  rotate_left
  · (intro w hSw; (try dsimp only at hSw); (try simp only [List.getElem_toArray, List.getElem_cons_succ, List.getElem_cons_zero]); go_simp; try with_reducible rfl)
  simp only [Act.put, List.setIfInBounds_toArray, List.set_cons_zero, List.set_cons_succ, List.getElem_toArray, List.getElem_cons_succ, List.getElem_cons_zero]
  refine wpAnyH_take (i := 10) (oi := _) (v := ?_) rfl (by kernel_rfl) (by kernel_rfl) (by kernel_rfl) (fun _ _ _ h => h) (Or.inl ⟨by rfl, ?_⟩) (by assumption) ?_
  rotate_left
  · (intro w hSw; (try dsimp only at hSw); (try simp only [List.getElem_toArray, List.getElem_cons_succ, List.getElem_cons_zero]); go_simp; try with_reducible rfl)
  simp only [Act.put, List.setIfInBounds_toArray, List.set_cons_zero, List.set_cons_succ, List.getElem_toArray, List.getElem_cons_succ, List.getElem_cons_zero]
  refine wpAnyH_take (i := 13) (oi := _) (v := ?_) rfl (by kernel_rfl) (by kernel_rfl) (by kernel_rfl) (fun _ _ _ h => h) (Or.inl ⟨by rfl, ?_⟩) (by assumption) ?_
  rotate_left
  · (intro w hSw; (try dsimp only at hSw); (try simp only [List.getElem_toArray, List.getElem_cons_succ, List.getElem_cons_zero]); go_simp; try with_reducible rfl)
  simp only [Act.put, List.setIfInBounds_toArray, List.set_cons_zero, List.set_cons_succ, List.getElem_toArray, List.getElem_cons_succ, List.getElem_cons_zero]
  refine wpAnyH_ready (rs := [11]) (by kernel_rfl) (by simp) ?_
  refine AllReadyH.cons (o := _) rfl (fun K hK => ?_) AllReadyH.nil
  try simp only [List.getElem_toArray, List.getElem_cons_succ, List.getElem_cons_zero]
  go_simp
  (go_at_call 80; go_split_ands; (with_reducible refine (HK1.out _ hsd.cell hsd.free).mono ?_); rintro z w1 ⟨rfl, ht1⟩; have hs1 := hsd.trans ht1)
  go_wp2_with fail
  refine hK.out _ _ (HX.out _ _ hs1) (fun hHeld => ?_)
  clear hK K
  try simp only [Act.put, List.setIfInBounds_toArray, List.set_cons_zero, List.set_cons_succ, List.getElem_toArray, List.getElem_cons_succ, List.getElem_cons_zero]
  refine wpAnyH_ready (rs := [12]) (by kernel_rfl) (by simp) ?_
  refine AllReadyH.cons (o := _) rfl (fun K hK => ?_) AllReadyH.nil
  try simp only [List.getElem_toArray, List.getElem_cons_succ, List.getElem_cons_zero]
  go_simp
  (go_at_call 79; go_split_ands; (with_reducible refine (HK2.out _ hs1.cell hs1.free).mono ?_); rintro z w2 ⟨rfl, ht2⟩; have hs2 := hs1.trans ht2)
  go_wp2_with fail
  refine hK.out _ _ (HX.out _ _ hs2) (fun hHeld => ?_)
  clear hK K
  try simp only [Act.put, List.setIfInBounds_toArray, List.set_cons_zero, List.set_cons_succ, List.getElem_toArray, List.getElem_cons_succ, List.getElem_cons_zero]
  refine wpAnyH_ready (rs := [14]) (by kernel_rfl) (by simp) ?_
  refine AllReadyH.cons (o := _) rfl (fun K hK => ?_) AllReadyH.nil
  try simp only [List.getElem_toArray, List.getElem_cons_succ, List.getElem_cons_zero]
  go_simp
  (go_at_call 80; go_split_ands; (with_reducible refine (HK3.out _ hs2.cell hs2.free).mono ?_); rintro z w3 ⟨rfl, ht3⟩; have hs3 := hs2.trans ht3)
  go_wp2_with fail
  refine hK.out _ _ (HX.out _ _ hs3) (fun hHeld => ?_)
  clear hK K
  try simp only [Act.put, List.setIfInBounds_toArray, List.set_cons_zero, List.set_cons_succ, List.getElem_toArray, List.getElem_cons_succ, List.getElem_cons_zero]
  refine wpAnyH_ready (rs := [15]) (by kernel_rfl) (by simp) ?_
  refine AllReadyH.cons (o := _) rfl (fun K hK => ?_) AllReadyH.nil
  try simp only [List.getElem_toArray, List.getElem_cons_succ, List.getElem_cons_zero]
  go_simp
  (go_at_call 79; go_split_ands; (with_reducible refine (HK4.out _ hs3.cell hs3.free).mono ?_); rintro z w4 ⟨rfl, ht4⟩; have hs4 := hs3.trans ht4)
  go_wp2_with fail
  refine hK.out _ _ (HX.out _ _ hs4) (fun hHeld => ?_)
  clear hK K
  try simp only [Act.put, List.setIfInBounds_toArray, List.set_cons_zero, List.set_cons_succ, List.getElem_toArray, List.getElem_cons_succ, List.getElem_cons_zero]
  refine wpAnyH_ready (rs := [16]) (by kernel_rfl) (by simp) ?_
  refine AllReadyH.cons (o := _) rfl (fun K hK => ?_) AllReadyH.nil
  go_split_ands
  obtain ⟨g0, g1, g2, g3⟩ := HY.out _ _ hs4
  try simp only [List.getElem_toArray, List.getElem_cons_succ, List.getElem_cons_zero]
  go_wp2_with fail
  skip
  refine hK.out _ _ (HZ.out _ _ hs4 _ _) (fun hHeld => ?_)
  clear hK K
  try simp only [Act.put, List.setIfInBounds_toArray, List.set_cons_zero, List.set_cons_succ, List.getElem_toArray, List.getElem_cons_succ, List.getElem_cons_zero]
  refine wpAnyH_done (by kernel_rfl) ?_ _
  go_wp2_with fail
  have l0 := (two_cells (v0 := .int .i64 K4.1.1) (v1 := .int .i64 K4.1.2) g0 g1).1
  have l1 := (two_cells (v0 := .int .i64 K4.1.1) (v1 := .int .i64 K4.1.2) g0 g1).2
  refine bodyPost_ret (v := .agg #[.int .i64 K4.1.1, .int .i64 K4.1.2]) (by simp [results, Try.results60, go_sem, l0, l1]) rfl ⟨rfl, ?_⟩
  exact ((Sm.from hW0 hb hs4).setCell (p := ⟨w.heap.size + 1 + 1, 0, none⟩) (by simp <;> omega) hb _).setCell (p := ⟨w.heap.size + 1 + 1, 1, none⟩) (by simp <;> omega) hb _
set_option maxRecDepth 100000 in
set_option maxHeartbeats 8000000 in
theorem qslope_any (b : Nat) (e : Int) (F A B C u : Int × Int) (vB : vF B = true) (vC : vF C = true) (vu : vF u = true) (w : World) (hc : w.cell? ⟨b, 0, none⟩ = some (.int .i64 e)) (hf : w.frozen? ⟨b, 0, none⟩ = false) :
    Calls Try.prog 71 #[.pointer (some ⟨b, 0, none⟩), .agg #[.int .i64 F.1, .int .i64 F.2, .int .i64 A.1, .int .i64 A.2, .int .i64 B.1, .int .i64 B.2, .int .i64 C.1, .int .i64 C.2], .agg #[.int .i64 u.1, .int .i64 u.2]] w fun z w' => z = .returned (.agg #[.int .i64 (kSlope e B C u).1.1, .int .i64 (kSlope e B C u).1.2]) ∧ Sm b (kSlope e B C u).2 w w' := by
  have hb : b < w.heap.size := World.block_lt_of_cell? _ _ hc
  obtain ⟨K1, hK1⟩ : ∃ K, kMul e C u = K := ⟨_, rfl⟩
  have vK1 : vF K1.1 = true := by rw [← hK1]; exact kMul_valid vC vu
  have HK1 : Hid (∀ w : World, w.cell? ⟨b, 0, none⟩ = some (.int .i64 e) → w.frozen? ⟨b, 0, none⟩ = false → Calls Try.prog 80 #[.pointer (some ⟨b, 0, none⟩), .agg #[.int .i64 C.1, .int .i64 C.2], .agg #[.int .i64 u.1, .int .i64 u.2]] w fun z w' => z = .returned (.agg #[.int .i64 K1.1.1, .int .i64 K1.1.2]) ∧ Sm b K1.2 w w') := Lib.hid fun w h0 h1 => by
    have := kmul_any b e C u vC vu w h0 h1
    rwa [hK1] at this
  obtain ⟨K2, hK2⟩ : ∃ K, kMul K1.2 (2, 1) K1.1 = K := ⟨_, rfl⟩
  have vK2 : vF K2.1 = true := by rw [← hK2]; exact kMul_valid vF_two vK1
  have HK2 : Hid (∀ w : World, w.cell? ⟨b, 0, none⟩ = some (.int .i64 K1.2) → w.frozen? ⟨b, 0, none⟩ = false → Calls Try.prog 80 #[.pointer (some ⟨b, 0, none⟩), .agg #[.int .i64 (2, 1).1, .int .i64 (2, 1).2], .agg #[.int .i64 K1.1.1, .int .i64 K1.1.2]] w fun z w' => z = .returned (.agg #[.int .i64 K2.1.1, .int .i64 K2.1.2]) ∧ Sm b K2.2 w w') := Lib.hid fun w h0 h1 => by
    have := kmul_any b K1.2 (2, 1) K1.1 vF_two vK1 w h0 h1
    rwa [hK2] at this
  obtain ⟨K3, hK3⟩ : ∃ K, kAdd K2.2 B K2.1 = K := ⟨_, rfl⟩
  have vK3 : vF K3.1 = true := by rw [← hK3]; exact kAdd_valid vB vK2
  have HK3 : Hid (∀ w : World, w.cell? ⟨b, 0, none⟩ = some (.int .i64 K2.2) → w.frozen? ⟨b, 0, none⟩ = false → Calls Try.prog 79 #[.pointer (some ⟨b, 0, none⟩), .agg #[.int .i64 B.1, .int .i64 B.2], .agg #[.int .i64 K2.1.1, .int .i64 K2.1.2]] w fun z w' => z = .returned (.agg #[.int .i64 K3.1.1, .int .i64 K3.1.2]) ∧ Sm b K3.2 w w') := Lib.hid fun w h0 h1 => by
    have := kadd_any b K2.2 B K2.1 vB vK2 w h0 h1
    rwa [hK3] at this
  have HR : Hid (kSlope e B C u = K3) := Lib.hid (by
    unfold kSlope
    simp only [hK1, hK2, hK3])
  rw [HR.out]
  clear hK1 vK1 hK2 vK2 hK3 vK3 vB vC vu
  go_enter Try.func71, Try.ntmps71
  go_upto_region 1 with (fail)
  have hW0 : Below w.heap.size w (((w.alloc (.cells #[.int .i64 F.1, .int .i64 F.2, .int .i64 A.1, .int .i64 A.2, .int .i64 B.1, .int .i64 B.2, .int .i64 C.1, .int .i64 C.2] 70)).alloc (.cells #[.int .i64 u.1, .int .i64 u.2] 39)).alloc (.cells #[.int .i64 0, .int .i64 0] 39)) := ((below_new _ _).alloc (by simp) _).alloc (by simp <;> omega) _
  have hz : w.heap.size + 1 + 1 < (((w.alloc (.cells #[.int .i64 F.1, .int .i64 F.2, .int .i64 A.1, .int .i64 A.2, .int .i64 B.1, .int .i64 B.2, .int .i64 C.1, .int .i64 C.2] 70)).alloc (.cells #[.int .i64 u.1, .int .i64 u.2] 39)).alloc (.cells #[.int .i64 0, .int .i64 0] 39)).heap.size := by simp
  have k0 : (((w.alloc (.cells #[.int .i64 F.1, .int .i64 F.2, .int .i64 A.1, .int .i64 A.2, .int .i64 B.1, .int .i64 B.2, .int .i64 C.1, .int .i64 C.2] 70)).alloc (.cells #[.int .i64 u.1, .int .i64 u.2] 39)).alloc (.cells #[.int .i64 0, .int .i64 0] 39)).cell? ⟨w.heap.size, 2, none⟩ = some (.int .i64 A.1) := by simp [go_sem, World.cell?_alloc_past]
  have k1 : (((w.alloc (.cells #[.int .i64 F.1, .int .i64 F.2, .int .i64 A.1, .int .i64 A.2, .int .i64 B.1, .int .i64 B.2, .int .i64 C.1, .int .i64 C.2] 70)).alloc (.cells #[.int .i64 u.1, .int .i64 u.2] 39)).alloc (.cells #[.int .i64 0, .int .i64 0] 39)).cell? ⟨w.heap.size, 3, none⟩ = some (.int .i64 A.2) := by simp [go_sem, World.cell?_alloc_past]
  have k2 : (((w.alloc (.cells #[.int .i64 F.1, .int .i64 F.2, .int .i64 A.1, .int .i64 A.2, .int .i64 B.1, .int .i64 B.2, .int .i64 C.1, .int .i64 C.2] 70)).alloc (.cells #[.int .i64 u.1, .int .i64 u.2] 39)).alloc (.cells #[.int .i64 0, .int .i64 0] 39)).cell? ⟨w.heap.size, 4, none⟩ = some (.int .i64 B.1) := by simp [go_sem, World.cell?_alloc_past]
  have k3 : (((w.alloc (.cells #[.int .i64 F.1, .int .i64 F.2, .int .i64 A.1, .int .i64 A.2, .int .i64 B.1, .int .i64 B.2, .int .i64 C.1, .int .i64 C.2] 70)).alloc (.cells #[.int .i64 u.1, .int .i64 u.2] 39)).alloc (.cells #[.int .i64 0, .int .i64 0] 39)).cell? ⟨w.heap.size, 5, none⟩ = some (.int .i64 B.2) := by simp [go_sem, World.cell?_alloc_past]
  have k4 : (((w.alloc (.cells #[.int .i64 F.1, .int .i64 F.2, .int .i64 A.1, .int .i64 A.2, .int .i64 B.1, .int .i64 B.2, .int .i64 C.1, .int .i64 C.2] 70)).alloc (.cells #[.int .i64 u.1, .int .i64 u.2] 39)).alloc (.cells #[.int .i64 0, .int .i64 0] 39)).cell? ⟨w.heap.size, 6, none⟩ = some (.int .i64 C.1) := by simp [go_sem, World.cell?_alloc_past]
  have k5 : (((w.alloc (.cells #[.int .i64 F.1, .int .i64 F.2, .int .i64 A.1, .int .i64 A.2, .int .i64 B.1, .int .i64 B.2, .int .i64 C.1, .int .i64 C.2] 70)).alloc (.cells #[.int .i64 u.1, .int .i64 u.2] 39)).alloc (.cells #[.int .i64 0, .int .i64 0] 39)).cell? ⟨w.heap.size, 7, none⟩ = some (.int .i64 C.2) := by simp [go_sem, World.cell?_alloc_past]
  have k6 : (((w.alloc (.cells #[.int .i64 F.1, .int .i64 F.2, .int .i64 A.1, .int .i64 A.2, .int .i64 B.1, .int .i64 B.2, .int .i64 C.1, .int .i64 C.2] 70)).alloc (.cells #[.int .i64 u.1, .int .i64 u.2] 39)).alloc (.cells #[.int .i64 0, .int .i64 0] 39)).cell? ⟨w.heap.size + 1, 0, none⟩ = some (.int .i64 u.1) := by simp [go_sem]
  have k7 : (((w.alloc (.cells #[.int .i64 F.1, .int .i64 F.2, .int .i64 A.1, .int .i64 A.2, .int .i64 B.1, .int .i64 B.2, .int .i64 C.1, .int .i64 C.2] 70)).alloc (.cells #[.int .i64 u.1, .int .i64 u.2] 39)).alloc (.cells #[.int .i64 0, .int .i64 0] 39)).cell? ⟨w.heap.size + 1, 1, none⟩ = some (.int .i64 u.2) := by simp [go_sem]
  have k8 : (((w.alloc (.cells #[.int .i64 F.1, .int .i64 F.2, .int .i64 A.1, .int .i64 A.2, .int .i64 B.1, .int .i64 B.2, .int .i64 C.1, .int .i64 C.2] 70)).alloc (.cells #[.int .i64 u.1, .int .i64 u.2] 39)).alloc (.cells #[.int .i64 0, .int .i64 0] 39)).cell? ⟨w.heap.size + 1 + 1, 0, none⟩ = some (.int .i64 0) := by simp [go_sem]
  have k9 : (((w.alloc (.cells #[.int .i64 F.1, .int .i64 F.2, .int .i64 A.1, .int .i64 A.2, .int .i64 B.1, .int .i64 B.2, .int .i64 C.1, .int .i64 C.2] 70)).alloc (.cells #[.int .i64 u.1, .int .i64 u.2] 39)).alloc (.cells #[.int .i64 0, .int .i64 0] 39)).cell? ⟨w.heap.size + 1 + 1, 1, none⟩ = some (.int .i64 0) := by simp [go_sem]
  have f0 : (((w.alloc (.cells #[.int .i64 F.1, .int .i64 F.2, .int .i64 A.1, .int .i64 A.2, .int .i64 B.1, .int .i64 B.2, .int .i64 C.1, .int .i64 C.2] 70)).alloc (.cells #[.int .i64 u.1, .int .i64 u.2] 39)).alloc (.cells #[.int .i64 0, .int .i64 0] 39)).frozen? ⟨w.heap.size + 1 + 1, 0, none⟩ = false := by simp [go_sem]
  have f1 : (((w.alloc (.cells #[.int .i64 F.1, .int .i64 F.2, .int .i64 A.1, .int .i64 A.2, .int .i64 B.1, .int .i64 B.2, .int .i64 C.1, .int .i64 C.2] 70)).alloc (.cells #[.int .i64 u.1, .int .i64 u.2] 39)).alloc (.cells #[.int .i64 0, .int .i64 0] 39)).frozen? ⟨w.heap.size + 1 + 1, 1, none⟩ = false := by simp [go_sem]
  have hs0 := Sm.of hW0 hc hf
  have hc0 := hs0.cell
  have hf0 := hs0.free
  generalize (((w.alloc (.cells #[.int .i64 F.1, .int .i64 F.2, .int .i64 A.1, .int .i64 A.2, .int .i64 B.1, .int .i64 B.2, .int .i64 C.1, .int .i64 C.2] 70)).alloc (.cells #[.int .i64 u.1, .int .i64 u.2] 39)).alloc (.cells #[.int .i64 0, .int .i64 0] 39)) = W0 at *
  have HX : Hid (∀ x w', Sm b x W0 w' → w.heap.size ≤ w'.heap.size ∧ w'.cell? ⟨w.heap.size, 2, none⟩ = some (.int .i64 A.1) ∧ w'.cell? ⟨w.heap.size, 3, none⟩ = some (.int .i64 A.2) ∧ w'.cell? ⟨w.heap.size, 4, none⟩ = some (.int .i64 B.1) ∧ w'.cell? ⟨w.heap.size, 5, none⟩ = some (.int .i64 B.2) ∧ w'.cell? ⟨w.heap.size, 6, none⟩ = some (.int .i64 C.1) ∧ w'.cell? ⟨w.heap.size, 7, none⟩ = some (.int .i64 C.2) ∧ w'.cell? ⟨w.heap.size + 1, 0, none⟩ = some (.int .i64 u.1) ∧ w'.cell? ⟨w.heap.size + 1, 1, none⟩ = some (.int .i64 u.2)) := Lib.hid fun x w' h =>
    ⟨Nat.le_trans hW0.size h.size, (h.other (p := ⟨w.heap.size, 2, none⟩) (by simp <;> omega) (by simp <;> omega)).trans k0, (h.other (p := ⟨w.heap.size, 3, none⟩) (by simp <;> omega) (by simp <;> omega)).trans k1, (h.other (p := ⟨w.heap.size, 4, none⟩) (by simp <;> omega) (by simp <;> omega)).trans k2, (h.other (p := ⟨w.heap.size, 5, none⟩) (by simp <;> omega) (by simp <;> omega)).trans k3, (h.other (p := ⟨w.heap.size, 6, none⟩) (by simp <;> omega) (by simp <;> omega)).trans k4, (h.other (p := ⟨w.heap.size, 7, none⟩) (by simp <;> omega) (by simp <;> omega)).trans k5, (h.other (p := ⟨w.heap.size + 1, 0, none⟩) (by simp <;> omega) (by simp <;> omega)).trans k6, (h.other (p := ⟨w.heap.size + 1, 1, none⟩) (by simp <;> omega) (by simp <;> omega)).trans k7⟩
  have HY : Hid (∀ x w', Sm b x W0 w' → w'.cell? ⟨w.heap.size + 1 + 1, 0, none⟩ = some (.int .i64 0) ∧ w'.cell? ⟨w.heap.size + 1 + 1, 1, none⟩ = some (.int .i64 0) ∧ w'.frozen? ⟨w.heap.size + 1 + 1, 0, none⟩ = false ∧ w'.frozen? ⟨w.heap.size + 1 + 1, 1, none⟩ = false) := Lib.hid fun x w' h =>
    ⟨(h.other (p := ⟨w.heap.size + 1 + 1, 0, none⟩) (by simp <;> omega) (by simp <;> omega)).trans k8, (h.other (p := ⟨w.heap.size + 1 + 1, 1, none⟩) (by simp <;> omega) (by simp <;> omega)).trans k9, (h.otherF (p := ⟨w.heap.size + 1 + 1, 0, none⟩) (by simp <;> omega) (by simp <;> omega)).trans f0, (h.otherF (p := ⟨w.heap.size + 1 + 1, 1, none⟩) (by simp <;> omega) (by simp <;> omega)).trans f1⟩
  have hbz : b < W0.heap.size := by omega
  have HZ : Hid (∀ x w', Sm b x W0 w' → ∀ v0 v1, (fun w' => w.heap.size ≤ w'.heap.size ∧ w'.cell? ⟨w.heap.size, 2, none⟩ = some (.int .i64 A.1) ∧ w'.cell? ⟨w.heap.size, 3, none⟩ = some (.int .i64 A.2) ∧ w'.cell? ⟨w.heap.size, 4, none⟩ = some (.int .i64 B.1) ∧ w'.cell? ⟨w.heap.size, 5, none⟩ = some (.int .i64 B.2) ∧ w'.cell? ⟨w.heap.size, 6, none⟩ = some (.int .i64 C.1) ∧ w'.cell? ⟨w.heap.size, 7, none⟩ = some (.int .i64 C.2) ∧ w'.cell? ⟨w.heap.size + 1, 0, none⟩ = some (.int .i64 u.1) ∧ w'.cell? ⟨w.heap.size + 1, 1, none⟩ = some (.int .i64 u.2)) ((w'.setCell ⟨w.heap.size + 1 + 1, 0, none⟩ v0).setCell ⟨w.heap.size + 1 + 1, 1, none⟩ v1)) := Lib.hid fun x w' h v0 v1 => by
    obtain ⟨h0, h1, h2, h3, h4, h5, h6, h7, h8⟩ := HX.out x w' h
    refine ⟨by simpa using h0, ?_, ?_, ?_, ?_, ?_, ?_, ?_, ?_⟩
    all_goals (refine (two_other (by omega) _ _ _).trans ?_; assumption)
  have hsd : Sm b e W0 W0.drew := (Sm.refl hc0 hf0).drew
  clear hc hf hc0 hf0 hs0 f0 f1 k0 k1 k2 k3 k4 k5 k6 k7 k8 k9
  refine wp_region_held_drew (S := (fun w' => w.heap.size ≤ w'.heap.size ∧ w'.cell? ⟨w.heap.size, 2, none⟩ = some (.int .i64 A.1) ∧ w'.cell? ⟨w.heap.size, 3, none⟩ = some (.int .i64 A.2) ∧ w'.cell? ⟨w.heap.size, 4, none⟩ = some (.int .i64 B.1) ∧ w'.cell? ⟨w.heap.size, 5, none⟩ = some (.int .i64 B.2) ∧ w'.cell? ⟨w.heap.size, 6, none⟩ = some (.int .i64 C.1) ∧ w'.cell? ⟨w.heap.size, 7, none⟩ = some (.int .i64 C.2) ∧ w'.cell? ⟨w.heap.size + 1, 0, none⟩ = some (.int .i64 u.1) ∧ w'.cell? ⟨w.heap.size + 1, 1, none⟩ = some (.int .i64 u.2))) (by kernel_rfl) (HX.out _ _ hsd) (fun hHeld => ?_)
  refine wpAnyH_take (i := 0) (oi := _) (v := ?_) rfl (by kernel_rfl) (by kernel_rfl) (by kernel_rfl) (fun _ _ _ h => h) (Or.inl ⟨by rfl, ?_⟩) (by assumption) ?_
  rotate_left
  · (intro w hSw; (try dsimp only at hSw); (try simp only [List.getElem_toArray, List.getElem_cons_zero]); go_simp; try with_reducible rfl)
  simp only [Act.put, List.setIfInBounds_toArray, List.set_cons_zero, List.set_cons_succ, List.getElem_toArray, List.getElem_cons_zero]
  refine wpAnyH_take (i := 1) (oi := _) (v := ?_) rfl (by kernel_rfl) (by kernel_rfl) (by kernel_rfl) (fun _ _ _ h => h) (Or.inl ⟨by rfl, ?_⟩) (by assumption) ?_
  rotate_left
  · (intro w hSw; (try dsimp only at hSw); (try simp only [List.getElem_toArray, List.getElem_cons_succ, List.getElem_cons_zero]); go_simp; try with_reducible rfl)
  simp only [Act.put, List.setIfInBounds_toArray, List.set_cons_zero, List.set_cons_succ, List.getElem_toArray, List.getElem_cons_succ, List.getElem_cons_zero]
  refine wpAnyH_take (i := 2) (oi := _) (v := ?_) rfl (by kernel_rfl) (by kernel_rfl) (by kernel_rfl) (fun _ _ _ h => h) (Or.inl ⟨by rfl, ?_⟩) (by assumption) ?_
  rotate_left
  · (intro w hSw; (try dsimp only at hSw); (try simp only [List.getElem_toArray, List.getElem_cons_succ, List.getElem_cons_zero]); go_simp; try with_reducible rfl)
  simp only [Act.put, List.setIfInBounds_toArray, List.set_cons_zero, List.set_cons_succ, List.getElem_toArray, List.getElem_cons_succ, List.getElem_cons_zero]
  refine wpAnyH_take (i := 3) (oi := _) (v := ?_) rfl (by kernel_rfl) (by kernel_rfl) (by kernel_rfl) (fun _ _ _ h => h) (Or.inl ⟨by rfl, ?_⟩) (by assumption) ?_
  rotate_left
  · (intro w hSw; (try dsimp only at hSw); (try simp only [List.getElem_toArray, List.getElem_cons_succ, List.getElem_cons_zero]); go_simp; try with_reducible rfl)
  simp only [Act.put, List.setIfInBounds_toArray, List.set_cons_zero, List.set_cons_succ, List.getElem_toArray, List.getElem_cons_succ, List.getElem_cons_zero]
  refine wpAnyH_take (i := 4) (oi := _) (v := ?_) rfl (by kernel_rfl) (by kernel_rfl) (by kernel_rfl) (fun _ _ _ h => h) (Or.inl ⟨by rfl, ?_⟩) (by assumption) ?_
  rotate_left
  · (intro w hSw; (try dsimp only at hSw); (try simp only [List.getElem_toArray, List.getElem_cons_succ, List.getElem_cons_zero]); go_simp; try with_reducible rfl)
  simp only [Act.put, List.setIfInBounds_toArray, List.set_cons_zero, List.set_cons_succ, List.getElem_toArray, List.getElem_cons_succ, List.getElem_cons_zero]
  refine wpAnyH_take (i := 5) (oi := _) (v := ?_) rfl (by kernel_rfl) (by kernel_rfl) (by kernel_rfl) (fun _ _ _ h => h) (Or.inl ⟨by rfl, ?_⟩) (by assumption) ?_
  rotate_left
  · (intro w hSw; (try dsimp only at hSw); (try simp only [List.getElem_toArray, List.getElem_cons_succ, List.getElem_cons_zero]); go_simp; try with_reducible rfl)
  simp only [Act.put, List.setIfInBounds_toArray, List.set_cons_zero, List.set_cons_succ, List.getElem_toArray, List.getElem_cons_succ, List.getElem_cons_zero]
  refine wpAnyH_take (i := 6) (oi := _) (v := ?_) rfl (by kernel_rfl) (by kernel_rfl) (by kernel_rfl) (fun _ _ _ h => h) (Or.inl ⟨by rfl, ?_⟩) (by assumption) ?_
  rotate_left
  · (intro w hSw; (try dsimp only at hSw); (try simp only [List.getElem_toArray, List.getElem_cons_succ, List.getElem_cons_zero]); go_simp; try with_reducible rfl)
  simp only [Act.put, List.setIfInBounds_toArray, List.set_cons_zero, List.set_cons_succ, List.getElem_toArray, List.getElem_cons_succ, List.getElem_cons_zero]
  refine wpAnyH_take (i := 7) (oi := _) (v := ?_) rfl (by kernel_rfl) (by kernel_rfl) (by kernel_rfl) (fun _ _ _ h => h) (Or.inl ⟨by rfl, ?_⟩) (by assumption) ?_
  rotate_left
  · (intro w hSw; (try dsimp only at hSw); (try simp only [List.getElem_toArray, List.getElem_cons_succ, List.getElem_cons_zero]); go_simp; try with_reducible rfl)
  simp only [Act.put, List.setIfInBounds_toArray, List.set_cons_zero, List.set_cons_succ, List.getElem_toArray, List.getElem_cons_succ, List.getElem_cons_zero]
  refine wpAnyH_take (i := 8) (oi := _) (v := ?_) rfl (by kernel_rfl) (by kernel_rfl) (by kernel_rfl) (fun _ _ _ h => h) (Or.inl ⟨by rfl, ?_⟩) (by assumption) ?_
  rotate_left
  · (intro w hSw; (try dsimp only at hSw); (try simp only [List.getElem_toArray, List.getElem_cons_succ, List.getElem_cons_zero]); go_simp; try with_reducible rfl)
  simp only [Act.put, List.setIfInBounds_toArray, List.set_cons_zero, List.set_cons_succ, List.getElem_toArray, List.getElem_cons_succ, List.getElem_cons_zero]
  refine wpAnyH_ready (rs := [9]) (by kernel_rfl) (by simp) ?_
  refine AllReadyH.cons (o := _) rfl (fun K hK => ?_) AllReadyH.nil
  try simp only [List.getElem_toArray, List.getElem_cons_succ, List.getElem_cons_zero]
  go_simp
  (go_at_call 80; go_split_ands; (with_reducible refine (HK1.out _ hsd.cell hsd.free).mono ?_); rintro z w1 ⟨rfl, ht1⟩; have hs1 := hsd.trans ht1)
  go_wp2_with fail
  refine hK.out _ _ (HX.out _ _ hs1) (fun hHeld => ?_)
  clear hK K
  try simp only [Act.put, List.setIfInBounds_toArray, List.set_cons_zero, List.set_cons_succ, List.getElem_toArray, List.getElem_cons_succ, List.getElem_cons_zero]
  refine wpAnyH_ready (rs := [10]) (by kernel_rfl) (by simp) ?_
  refine AllReadyH.cons (o := _) rfl (fun K hK => ?_) AllReadyH.nil
  try simp only [List.getElem_toArray, List.getElem_cons_succ, List.getElem_cons_zero]
  go_simp
  (go_at_call 80; go_split_ands; (with_reducible refine (HK2.out _ hs1.cell hs1.free).mono ?_); rintro z w2 ⟨rfl, ht2⟩; have hs2 := hs1.trans ht2)
  go_wp2_with fail
  refine hK.out _ _ (HX.out _ _ hs2) (fun hHeld => ?_)
  clear hK K
  try simp only [Act.put, List.setIfInBounds_toArray, List.set_cons_zero, List.set_cons_succ, List.getElem_toArray, List.getElem_cons_succ, List.getElem_cons_zero]
  refine wpAnyH_ready (rs := [11]) (by kernel_rfl) (by simp) ?_
  refine AllReadyH.cons (o := _) rfl (fun K hK => ?_) AllReadyH.nil
  try simp only [List.getElem_toArray, List.getElem_cons_succ, List.getElem_cons_zero]
  go_simp
  (go_at_call 79; go_split_ands; (with_reducible refine (HK3.out _ hs2.cell hs2.free).mono ?_); rintro z w3 ⟨rfl, ht3⟩; have hs3 := hs2.trans ht3)
  go_wp2_with fail
  refine hK.out _ _ (HX.out _ _ hs3) (fun hHeld => ?_)
  clear hK K
  try simp only [Act.put, List.setIfInBounds_toArray, List.set_cons_zero, List.set_cons_succ, List.getElem_toArray, List.getElem_cons_succ, List.getElem_cons_zero]
  refine wpAnyH_ready (rs := [12]) (by kernel_rfl) (by simp) ?_
  refine AllReadyH.cons (o := _) rfl (fun K hK => ?_) AllReadyH.nil
  go_split_ands
  obtain ⟨g0, g1, g2, g3⟩ := HY.out _ _ hs3
  try simp only [List.getElem_toArray, List.getElem_cons_succ, List.getElem_cons_zero]
  go_wp2_with fail
  skip
  refine hK.out _ _ (HZ.out _ _ hs3 _ _) (fun hHeld => ?_)
  clear hK K
  try simp only [Act.put, List.setIfInBounds_toArray, List.set_cons_zero, List.set_cons_succ, List.getElem_toArray, List.getElem_cons_succ, List.getElem_cons_zero]
  refine wpAnyH_done (by kernel_rfl) ?_ _
  go_wp2_with fail
  have l0 := (two_cells (v0 := .int .i64 K3.1.1) (v1 := .int .i64 K3.1.2) g0 g1).1
  have l1 := (two_cells (v0 := .int .i64 K3.1.1) (v1 := .int .i64 K3.1.2) g0 g1).2
  refine bodyPost_ret (v := .agg #[.int .i64 K3.1.1, .int .i64 K3.1.2]) (by simp [results, Try.results71, go_sem, l0, l1]) rfl ⟨rfl, ?_⟩
  exact ((Sm.from hW0 hb hs3).setCell (p := ⟨w.heap.size + 1 + 1, 0, none⟩) (by simp <;> omega) hb _).setCell (p := ⟨w.heap.size + 1 + 1, 1, none⟩) (by simp <;> omega) hb _
set_option maxHeartbeats 4000000 in
theorem qresult_any (b : Nat) (e : Int) (x : Int × Int) (w : World) (hc : w.cell? ⟨b, 0, none⟩ = some (.int .i64 e)) :
    Calls Try.prog 59 #[.pointer (some ⟨b, 0, none⟩), .agg #[.int .i64 x.1, .int .i64 x.2]] w fun z w' => z = .returned (.tuple #[.agg #[.int .i64 (if e = 0 then x.1 else 0), .int .i64 (if e = 0 then x.2 else 0)], .int .i64 e]) ∧ Below w.heap.size w w' := by
  have hb : b < w.heap.size := World.block_lt_of_cell? _ _ hc
  by_cases z : e = 0
  · rw [if_pos z, if_pos z]
    subst z
    go_enter Try.func59, Try.ntmps59
    go_wp2_with fail
    refine bodyPost_ret (v := .tuple #[.agg #[.int .i64 x.1, .int .i64 x.2], .int .i64 0]) (by simp [results, Try.results59, go_sem]) rfl ⟨rfl, ?_⟩
    exact (below_new _ _).alloc (by simp) _
  · rw [if_neg z, if_neg z]
    have z1 : (e == 0) = false := beq_eq_false_iff_ne.2 z
    have z2 : (e != 0) = true := by simpa using z
    clear z
    go_enter Try.func59, Try.ntmps59
    go_upto_region 2 with (fail)
    go_region
    all_goals go_wp2_with fail
    all_goals refine bodyPost_ret (v := .tuple #[.agg #[.int .i64 0, .int .i64 0], .int .i64 e]) (by simp [results, Try.results59, go_sem]) rfl ⟨rfl, ?_⟩
    all_goals exact ((below_new _ _).alloc (by simp) _).drew
end Go.Proofs.Ytlgpolfbilkmbaa
