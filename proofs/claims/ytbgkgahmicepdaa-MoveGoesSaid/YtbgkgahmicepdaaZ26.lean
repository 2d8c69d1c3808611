/-
  THE WALKS of the sums of package quadratic: value, slope, result.
  THE WALKS of package quadratic: compare, Valid (at a valid curve), piece.
-/
import Derived.Test.YtbgkgahmicepdaaZ1
import Derived.Test.YtbgkgahmicepdaaZ25
import Derived.Test.YtbgkgahmicepdaaZ16
namespace Go.Proofs.Ytbgkgahmicepdaa
open Go.RowKit Go.Shelf
set_option maxRecDepth 100000 in
set_option maxHeartbeats 8000000 in
theorem qvalue_any (b : Nat) (e : Int) (F A B C u : Int × Int) (vA : vF A = true) (vB : vF B = true) (vC : vF C = true) (vu : vF u = true) (w : World) (hc : w.cell? ⟨b, 0, none⟩ = some (.int .i64 e)) (hf : w.frozen? ⟨b, 0, none⟩ = false) :
  Calls Try.prog 39 #[.pointer (some ⟨b, 0, none⟩), .agg #[.int .i64 F.1, .int .i64 F.2, .int .i64 A.1, .int .i64 A.2, .int .i64 B.1, .int .i64 B.2, .int .i64 C.1, .int .i64 C.2], .agg #[.int .i64 u.1, .int .i64 u.2]] w fun z w' => z = .returned (.agg #[.int .i64 (kVal e A B C u).1.1, .int .i64 (kVal e A B C u).1.2]) ∧ Sm b (kVal e A B C u).2 w w' := by
 have hb : b < w.heap.size := World.block_lt_of_cell? _ _ hc
 obtain ⟨K1, hK1⟩ : ∃ K, kMul e C u = K := ⟨_, rfl⟩
 have vK1 : vF K1.1 = true := by rw [← hK1]; exact kMul_valid vC vu
 have HK1 : Hid (∀ w : World, w.cell? ⟨b, 0, none⟩ = some (.int .i64 e) → w.frozen? ⟨b, 0, none⟩ = false → Calls Try.prog 64 #[.pointer (some ⟨b, 0, none⟩), .agg #[.int .i64 C.1, .int .i64 C.2], .agg #[.int .i64 u.1, .int .i64 u.2]] w fun z w' => z = .returned (.agg #[.int .i64 K1.1.1, .int .i64 K1.1.2]) ∧ Sm b K1.2 w w') := Lib.hid fun w h0 h1 => by
  have := kmul_any b e C u vC vu w h0 h1
  rwa [hK1] at this
 obtain ⟨K2, hK2⟩ : ∃ K, kAdd K1.2 B K1.1 = K := ⟨_, rfl⟩
 have vK2 : vF K2.1 = true := by rw [← hK2]; exact kAdd_valid vB vK1
 have HK2 : Hid (∀ w : World, w.cell? ⟨b, 0, none⟩ = some (.int .i64 K1.2) → w.frozen? ⟨b, 0, none⟩ = false → Calls Try.prog 63 #[.pointer (some ⟨b, 0, none⟩), .agg #[.int .i64 B.1, .int .i64 B.2], .agg #[.int .i64 K1.1.1, .int .i64 K1.1.2]] w fun z w' => z = .returned (.agg #[.int .i64 K2.1.1, .int .i64 K2.1.2]) ∧ Sm b K2.2 w w') := Lib.hid fun w h0 h1 => by
  have := kadd_any b K1.2 B K1.1 vB vK1 w h0 h1
  rwa [hK2] at this
 obtain ⟨K3, hK3⟩ : ∃ K, kMul K2.2 K2.1 u = K := ⟨_, rfl⟩
 have vK3 : vF K3.1 = true := by rw [← hK3]; exact kMul_valid vK2 vu
 have HK3 : Hid (∀ w : World, w.cell? ⟨b, 0, none⟩ = some (.int .i64 K2.2) → w.frozen? ⟨b, 0, none⟩ = false → Calls Try.prog 64 #[.pointer (some ⟨b, 0, none⟩), .agg #[.int .i64 K2.1.1, .int .i64 K2.1.2], .agg #[.int .i64 u.1, .int .i64 u.2]] w fun z w' => z = .returned (.agg #[.int .i64 K3.1.1, .int .i64 K3.1.2]) ∧ Sm b K3.2 w w') := Lib.hid fun w h0 h1 => by
  have := kmul_any b K2.2 K2.1 u vK2 vu w h0 h1
  rwa [hK3] at this
 obtain ⟨K4, hK4⟩ : ∃ K, kAdd K3.2 A K3.1 = K := ⟨_, rfl⟩
 have vK4 : vF K4.1 = true := by rw [← hK4]; exact kAdd_valid vA vK3
 have HK4 : Hid (∀ w : World, w.cell? ⟨b, 0, none⟩ = some (.int .i64 K3.2) → w.frozen? ⟨b, 0, none⟩ = false → Calls Try.prog 63 #[.pointer (some ⟨b, 0, none⟩), .agg #[.int .i64 A.1, .int .i64 A.2], .agg #[.int .i64 K3.1.1, .int .i64 K3.1.2]] w fun z w' => z = .returned (.agg #[.int .i64 K4.1.1, .int .i64 K4.1.2]) ∧ Sm b K4.2 w w') := Lib.hid fun w h0 h1 => by
  have := kadd_any b K3.2 A K3.1 vA vK3 w h0 h1
  rwa [hK4] at this
 have HR : Hid (kVal e A B C u = K4) := Lib.hid (by
  unfold kVal
  simp only [hK1, hK2, hK3, hK4])
 rw [HR.out]
 clear hK1 vK1 hK2 vK2 hK3 vK3 hK4 vK4 vB vC vu vA
 go_enter Try.func39, Try.ntmps39
 go_upto_region 1 with (fail)
 have hW0 : Below w.heap.size w (((w.alloc (.cells #[.int .i64 F.1, .int .i64 F.2, .int .i64 A.1, .int .i64 A.2, .int .i64 B.1, .int .i64 B.2, .int .i64 C.1, .int .i64 C.2] 69)).alloc (.cells #[.int .i64 u.1, .int .i64 u.2] 29)).alloc (.cells #[.int .i64 0, .int .i64 0] 29)) := ((below_new _ _).alloc (by simp) _).alloc (by simp <;> omega) _
 have hz : w.heap.size + 1 + 1 < (((w.alloc (.cells #[.int .i64 F.1, .int .i64 F.2, .int .i64 A.1, .int .i64 A.2, .int .i64 B.1, .int .i64 B.2, .int .i64 C.1, .int .i64 C.2] 69)).alloc (.cells #[.int .i64 u.1, .int .i64 u.2] 29)).alloc (.cells #[.int .i64 0, .int .i64 0] 29)).heap.size := by simp
 have k0 : (((w.alloc (.cells #[.int .i64 F.1, .int .i64 F.2, .int .i64 A.1, .int .i64 A.2, .int .i64 B.1, .int .i64 B.2, .int .i64 C.1, .int .i64 C.2] 69)).alloc (.cells #[.int .i64 u.1, .int .i64 u.2] 29)).alloc (.cells #[.int .i64 0, .int .i64 0] 29)).cell? ⟨w.heap.size, 2, none⟩ = some (.int .i64 A.1) := by simp [go_sem, World.cell?_alloc_past]
 have k1 : (((w.alloc (.cells #[.int .i64 F.1, .int .i64 F.2, .int .i64 A.1, .int .i64 A.2, .int .i64 B.1, .int .i64 B.2, .int .i64 C.1, .int .i64 C.2] 69)).alloc (.cells #[.int .i64 u.1, .int .i64 u.2] 29)).alloc (.cells #[.int .i64 0, .int .i64 0] 29)).cell? ⟨w.heap.size, 3, none⟩ = some (.int .i64 A.2) := by simp [go_sem, World.cell?_alloc_past]
 have k2 : (((w.alloc (.cells #[.int .i64 F.1, .int .i64 F.2, .int .i64 A.1, .int .i64 A.2, .int .i64 B.1, .int .i64 B.2, .int .i64 C.1, .int .i64 C.2] 69)).alloc (.cells #[.int .i64 u.1, .int .i64 u.2] 29)).alloc (.cells #[.int .i64 0, .int .i64 0] 29)).cell? ⟨w.heap.size, 4, none⟩ = some (.int .i64 B.1) := by simp [go_sem, World.cell?_alloc_past]
 have k3 : (((w.alloc (.cells #[.int .i64 F.1, .int .i64 F.2, .int .i64 A.1, .int .i64 A.2, .int .i64 B.1, .int .i64 B.2, .int .i64 C.1, .int .i64 C.2] 69)).alloc (.cells #[.int .i64 u.1, .int .i64 u.2] 29)).alloc (.cells #[.int .i64 0, .int .i64 0] 29)).cell? ⟨w.heap.size, 5, none⟩ = some (.int .i64 B.2) := by simp [go_sem, World.cell?_alloc_past]
 have k4 : (((w.alloc (.cells #[.int .i64 F.1, .int .i64 F.2, .int .i64 A.1, .int .i64 A.2, .int .i64 B.1, .int .i64 B.2, .int .i64 C.1, .int .i64 C.2] 69)).alloc (.cells #[.int .i64 u.1, .int .i64 u.2] 29)).alloc (.cells #[.int .i64 0, .int .i64 0] 29)).cell? ⟨w.heap.size, 6, none⟩ = some (.int .i64 C.1) := by simp [go_sem, World.cell?_alloc_past]
 have k5 : (((w.alloc (.cells #[.int .i64 F.1, .int .i64 F.2, .int .i64 A.1, .int .i64 A.2, .int .i64 B.1, .int .i64 B.2, .int .i64 C.1, .int .i64 C.2] 69)).alloc (.cells #[.int .i64 u.1, .int .i64 u.2] 29)).alloc (.cells #[.int .i64 0, .int .i64 0] 29)).cell? ⟨w.heap.size, 7, none⟩ = some (.int .i64 C.2) := by simp [go_sem, World.cell?_alloc_past]
 have k6 : (((w.alloc (.cells #[.int .i64 F.1, .int .i64 F.2, .int .i64 A.1, .int .i64 A.2, .int .i64 B.1, .int .i64 B.2, .int .i64 C.1, .int .i64 C.2] 69)).alloc (.cells #[.int .i64 u.1, .int .i64 u.2] 29)).alloc (.cells #[.int .i64 0, .int .i64 0] 29)).cell? ⟨w.heap.size + 1, 0, none⟩ = some (.int .i64 u.1) := by simp [go_sem]
 have k7 : (((w.alloc (.cells #[.int .i64 F.1, .int .i64 F.2, .int .i64 A.1, .int .i64 A.2, .int .i64 B.1, .int .i64 B.2, .int .i64 C.1, .int .i64 C.2] 69)).alloc (.cells #[.int .i64 u.1, .int .i64 u.2] 29)).alloc (.cells #[.int .i64 0, .int .i64 0] 29)).cell? ⟨w.heap.size + 1, 1, none⟩ = some (.int .i64 u.2) := by simp [go_sem]
 have k8 : (((w.alloc (.cells #[.int .i64 F.1, .int .i64 F.2, .int .i64 A.1, .int .i64 A.2, .int .i64 B.1, .int .i64 B.2, .int .i64 C.1, .int .i64 C.2] 69)).alloc (.cells #[.int .i64 u.1, .int .i64 u.2] 29)).alloc (.cells #[.int .i64 0, .int .i64 0] 29)).cell? ⟨w.heap.size + 1 + 1, 0, none⟩ = some (.int .i64 0) := by simp [go_sem]
 have k9 : (((w.alloc (.cells #[.int .i64 F.1, .int .i64 F.2, .int .i64 A.1, .int .i64 A.2, .int .i64 B.1, .int .i64 B.2, .int .i64 C.1, .int .i64 C.2] 69)).alloc (.cells #[.int .i64 u.1, .int .i64 u.2] 29)).alloc (.cells #[.int .i64 0, .int .i64 0] 29)).cell? ⟨w.heap.size + 1 + 1, 1, none⟩ = some (.int .i64 0) := by simp [go_sem]
 have f0 : (((w.alloc (.cells #[.int .i64 F.1, .int .i64 F.2, .int .i64 A.1, .int .i64 A.2, .int .i64 B.1, .int .i64 B.2, .int .i64 C.1, .int .i64 C.2] 69)).alloc (.cells #[.int .i64 u.1, .int .i64 u.2] 29)).alloc (.cells #[.int .i64 0, .int .i64 0] 29)).frozen? ⟨w.heap.size + 1 + 1, 0, none⟩ = false := by simp [go_sem]
 have f1 : (((w.alloc (.cells #[.int .i64 F.1, .int .i64 F.2, .int .i64 A.1, .int .i64 A.2, .int .i64 B.1, .int .i64 B.2, .int .i64 C.1, .int .i64 C.2] 69)).alloc (.cells #[.int .i64 u.1, .int .i64 u.2] 29)).alloc (.cells #[.int .i64 0, .int .i64 0] 29)).frozen? ⟨w.heap.size + 1 + 1, 1, none⟩ = false := by simp [go_sem]
 have hs0 := Sm.of hW0 hc hf
 have hc0 := hs0.cell
 have hf0 := hs0.free
 generalize (((w.alloc (.cells #[.int .i64 F.1, .int .i64 F.2, .int .i64 A.1, .int .i64 A.2, .int .i64 B.1, .int .i64 B.2, .int .i64 C.1, .int .i64 C.2] 69)).alloc (.cells #[.int .i64 u.1, .int .i64 u.2] 29)).alloc (.cells #[.int .i64 0, .int .i64 0] 29)) = W0 at *
 have HX : Hid (∀ x w', Sm b x W0 w' → w.heap.size ≤ w'.heap.size ∧ w'.cell? ⟨w.heap.size, 2, none⟩ = some (.int .i64 A.1) ∧ w'.cell? ⟨w.heap.size, 3, none⟩ = some (.int .i64 A.2) ∧ w'.cell? ⟨w.heap.size, 4, none⟩ = some (.int .i64 B.1) ∧ w'.cell? ⟨w.heap.size, 5, none⟩ = some (.int .i64 B.2) ∧ w'.cell? ⟨w.heap.size, 6, none⟩ = some (.int .i64 C.1) ∧ w'.cell? ⟨w.heap.size, 7, none⟩ = some (.int .i64 C.2) ∧ w'.cell? ⟨w.heap.size + 1, 0, none⟩ = some (.int .i64 u.1) ∧ w'.cell? ⟨w.heap.size + 1, 1, none⟩ = some (.int .i64 u.2)) := Lib.hid fun x w' h =>
  ⟨Nat.le_trans hW0.size h.size, (h.other (p := ⟨w.heap.size, 2, none⟩) (by simp <;> omega) (by simp <;> omega)).trans k0, (h.other (p := ⟨w.heap.size, 3, none⟩) (by simp <;> omega) (by simp <;> omega)).trans k1, (h.other (p := ⟨w.heap.size, 4, none⟩) (by simp <;> omega) (by simp <;> omega)).trans k2, (h.other (p := ⟨w.heap.size, 5, none⟩) (by simp <;> omega) (by simp <;> omega)).trans k3, (h.other (p := ⟨w.heap.size, 6, none⟩) (by simp <;> omega) (by simp <;> omega)).trans k4, (h.other (p := ⟨w.heap.size, 7, none⟩) (by simp <;> omega) (by simp <;> omega)).trans k5, (h.other (p := ⟨w.heap.size + 1, 0, none⟩) (by simp <;> omega) (by simp <;> omega)).trans k6, (h.other (p := ⟨w.heap.size + 1, 1, none⟩) (by simp <;> omega) (by simp <;> omega)).trans k7⟩
 have HY : Hid (∀ x w', Sm b x W0 w' → w'.cell? ⟨w.heap.size + 1 + 1, 0, none⟩ = some (.int .i64 0) ∧ w'.cell? ⟨w.heap.size + 1 + 1, 1, none⟩ = some (.int .i64 0) ∧ w'.frozen? ⟨w.heap.size + 1 + 1, 0, none⟩ = false ∧ w'.frozen? ⟨w.heap.size + 1 + 1, 1, none⟩ = false) := Lib.hid fun x w' h =>
  ⟨(h.other (p := ⟨w.heap.size + 1 + 1, 0, none⟩) (by simp <;> omega) (by simp <;> omega)).trans k8, (h.other (p := ⟨w.heap.size + 1 + 1, 1, none⟩) (by simp <;> omega) (by simp <;> omega)).trans k9, (h.otherF (p := ⟨w.heap.size + 1 + 1, 0, none⟩) (by simp <;> omega) (by simp <;> omega)).trans f0, (h.otherF (p := ⟨w.heap.size + 1 + 1, 1, none⟩) (by simp <;> omega) (by simp <;> omega)).trans f1⟩
 have hbz : b < W0.heap.size := by omega
 have HZ : Hid (∀ x w', Sm b x W0 w' → ∀ v0 v1, (fun w' => w.heap.size ≤ w'.heap.size ∧ w'.cell? ⟨w.heap.size, 2, none⟩ = some (.int .i64 A.1) ∧ w'.cell? ⟨w.heap.size, 3, none⟩ = some (.int .i64 A.2) ∧ w'.cell? ⟨w.heap.size, 4, none⟩ = some (.int .i64 B.1) ∧ w'.cell? ⟨w.heap.size, 5, none⟩ = some (.int .i64 B.2) ∧ w'.cell? ⟨w.heap.size, 6, none⟩ = some (.int .i64 C.1) ∧ w'.cell? ⟨w.heap.size, 7, none⟩ = some (.int .i64 C.2) ∧ w'.cell? ⟨w.heap.size + 1, 0, none⟩ = some (.int .i64 u.1) ∧ w'.cell? ⟨w.heap.size + 1, 1, none⟩ = some (.int .i64 u.2)) ((w'.setCell ⟨w.heap.size + 1 + 1, 0, none⟩ v0).setCell ⟨w.heap.size + 1 + 1, 1, none⟩ v1)) := Lib.hid fun x w' h v0 v1 => by
  obtain ⟨h0, h1, h2, h3, h4, h5, h6, h7, h8⟩ := HX.out x w' h
  refine ⟨by simpa using h0, ?_, ?_, ?_, ?_, ?_, ?_, ?_, ?_⟩
  all_goals (refine (two_other (by omega) _ _ _).trans ?_; assumption)
 have hsd : Sm b e W0 W0.drew := (Sm.refl hc0 hf0).drew
 clear hc hf hc0 hf0 hs0 f0 f1 k0 k1 k2 k3 k4 k5 k6 k7 k8 k9
 refine wp_region_held_drew (S := (fun w' => w.heap.size ≤ w'.heap.size ∧ w'.cell? ⟨w.heap.size, 2, none⟩ = some (.int .i64 A.1) ∧ w'.cell? ⟨w.heap.size, 3, none⟩ = some (.int .i64 A.2) ∧ w'.cell? ⟨w.heap.size, 4, none⟩ = some (.int .i64 B.1) ∧ w'.cell? ⟨w.heap.size, 5, none⟩ = some (.int .i64 B.2) ∧ w'.cell? ⟨w.heap.size, 6, none⟩ = some (.int .i64 C.1) ∧ w'.cell? ⟨w.heap.size, 7, none⟩ = some (.int .i64 C.2) ∧ w'.cell? ⟨w.heap.size + 1, 0, none⟩ = some (.int .i64 u.1) ∧ w'.cell? ⟨w.heap.size + 1, 1, none⟩ = some (.int .i64 u.2))) (by kernel_rfl) (HX.out _ _ hsd) (fun hHeld => ?_)
 refine tkB 0 ?_
 simp only [Act.put, List.setIfInBounds_toArray, List.set_cons_zero, List.set_cons_succ, List.getElem_toArray, List.getElem_cons_zero]
 refine tkB 1 ?_
 simp only [Act.put, List.setIfInBounds_toArray, List.set_cons_zero, List.set_cons_succ, List.getElem_toArray, List.getElem_cons_succ, List.getElem_cons_zero]
 refine tkB 2 ?_
 simp only [Act.put, List.setIfInBounds_toArray, List.set_cons_zero, List.set_cons_succ, List.getElem_toArray, List.getElem_cons_succ, List.getElem_cons_zero]
 refine tkB 3 ?_
 simp only [Act.put, List.setIfInBounds_toArray, List.set_cons_zero, List.set_cons_succ, List.getElem_toArray, List.getElem_cons_succ, List.getElem_cons_zero]
 refine tkB 4 ?_
 simp only [Act.put, List.setIfInBounds_toArray, List.set_cons_zero, List.set_cons_succ, List.getElem_toArray, List.getElem_cons_succ, List.getElem_cons_zero]
 refine tkB 5 ?_
 simp only [Act.put, List.setIfInBounds_toArray, List.set_cons_zero, List.set_cons_succ, List.getElem_toArray, List.getElem_cons_succ, List.getElem_cons_zero]
 refine tkB 6 ?_
 simp only [Act.put, List.setIfInBounds_toArray, List.set_cons_zero, List.set_cons_succ, List.getElem_toArray, List.getElem_cons_succ, List.getElem_cons_zero]
 refine tkB 7 ?_
 simp only [Act.put, List.setIfInBounds_toArray, List.set_cons_zero, List.set_cons_succ, List.getElem_toArray, List.getElem_cons_succ, List.getElem_cons_zero]
 refine tkB 8 ?_
 simp only [Act.put, List.setIfInBounds_toArray, List.set_cons_zero, List.set_cons_succ, List.getElem_toArray, List.getElem_cons_succ, List.getElem_cons_zero]
 refine tkB 9 ?_
 simp only [Act.put, List.setIfInBounds_toArray, List.set_cons_zero, List.set_cons_succ, List.getElem_toArray, List.getElem_cons_succ, List.getElem_cons_zero]
 refine tkB 10 ?_
 simp only [Act.put, List.setIfInBounds_toArray, List.set_cons_zero, List.set_cons_succ, List.getElem_toArray, List.getElem_cons_succ, List.getElem_cons_zero]
 refine tkB 13 ?_
 simp only [Act.put, List.setIfInBounds_toArray, List.set_cons_zero, List.set_cons_succ, List.getElem_toArray, List.getElem_cons_succ, List.getElem_cons_zero]
 refine wpAnyH_ready (rs := [11]) (by kernel_rfl) (by simp) ?_
 refine AllReadyH.cons (o := _) rfl (fun K hK => ?_) AllReadyH.nil
 try simp only [List.getElem_toArray, List.getElem_cons_succ, List.getElem_cons_zero]
 go_simp
 (go_at_call 64; go_split_ands; (with_reducible refine (HK1.out _ hsd.cell hsd.free).mono ?_); rintro z w1 ⟨rfl, ht1⟩; have hs1 := hsd.trans ht1)
 go_wp2_with fail
 refine hK.out _ _ (HX.out _ _ hs1) (fun hHeld => ?_)
 clear hK K
 try simp only [Act.put, List.setIfInBounds_toArray, List.set_cons_zero, List.set_cons_succ, List.getElem_toArray, List.getElem_cons_succ, List.getElem_cons_zero]
 refine wpAnyH_ready (rs := [12]) (by kernel_rfl) (by simp) ?_
 refine AllReadyH.cons (o := _) rfl (fun K hK => ?_) AllReadyH.nil
 try simp only [List.getElem_toArray, List.getElem_cons_succ, List.getElem_cons_zero]
 go_simp
 (go_at_call 63; go_split_ands; (with_reducible refine (HK2.out _ hs1.cell hs1.free).mono ?_); rintro z w2 ⟨rfl, ht2⟩; have hs2 := hs1.trans ht2)
 go_wp2_with fail
 refine hK.out _ _ (HX.out _ _ hs2) (fun hHeld => ?_)
 clear hK K
 try simp only [Act.put, List.setIfInBounds_toArray, List.set_cons_zero, List.set_cons_succ, List.getElem_toArray, List.getElem_cons_succ, List.getElem_cons_zero]
 refine wpAnyH_ready (rs := [14]) (by kernel_rfl) (by simp) ?_
 refine AllReadyH.cons (o := _) rfl (fun K hK => ?_) AllReadyH.nil
 try simp only [List.getElem_toArray, List.getElem_cons_succ, List.getElem_cons_zero]
 go_simp
 (go_at_call 64; go_split_ands; (with_reducible refine (HK3.out _ hs2.cell hs2.free).mono ?_); rintro z w3 ⟨rfl, ht3⟩; have hs3 := hs2.trans ht3)
 go_wp2_with fail
 refine hK.out _ _ (HX.out _ _ hs3) (fun hHeld => ?_)
 clear hK K
 try simp only [Act.put, List.setIfInBounds_toArray, List.set_cons_zero, List.set_cons_succ, List.getElem_toArray, List.getElem_cons_succ, List.getElem_cons_zero]
 refine wpAnyH_ready (rs := [15]) (by kernel_rfl) (by simp) ?_
 refine AllReadyH.cons (o := _) rfl (fun K hK => ?_) AllReadyH.nil
 try simp only [List.getElem_toArray, List.getElem_cons_succ, List.getElem_cons_zero]
 go_simp
 (go_at_call 63; go_split_ands; (with_reducible refine (HK4.out _ hs3.cell hs3.free).mono ?_); rintro z w4 ⟨rfl, ht4⟩; have hs4 := hs3.trans ht4)
 go_wp2_with fail
 refine hK.out _ _ (HX.out _ _ hs4) (fun hHeld => ?_)
 clear hK K
 try simp only [Act.put, List.setIfInBounds_toArray, List.set_cons_zero, List.set_cons_succ, List.getElem_toArray, List.getElem_cons_succ, List.getElem_cons_zero]
 refine wpAnyH_ready (rs := [16]) (by kernel_rfl) (by simp) ?_
 refine AllReadyH.cons (o := _) rfl (fun K hK => ?_) AllReadyH.nil
 go_split_ands
 obtain ⟨g0, g1, g2, g3⟩ := HY.out _ _ hs4
 try simp only [List.getElem_toArray, List.getElem_cons_succ, List.getElem_cons_zero]
 go_wp2_with fail
 skip
 refine hK.out _ _ (HZ.out _ _ hs4 _ _) (fun hHeld => ?_)
 clear hK K
 try simp only [Act.put, List.setIfInBounds_toArray, List.set_cons_zero, List.set_cons_succ, List.getElem_toArray, List.getElem_cons_succ, List.getElem_cons_zero]
 refine wpAnyH_done (by kernel_rfl) ?_ _
 go_wp2_with fail
 have l0 := (two_cells (v0 := .int .i64 K4.1.1) (v1 := .int .i64 K4.1.2) g0 g1).1
 have l1 := (two_cells (v0 := .int .i64 K4.1.1) (v1 := .int .i64 K4.1.2) g0 g1).2
 refine bodyPost_ret (v := .agg #[.int .i64 K4.1.1, .int .i64 K4.1.2]) (by simp [results, Try.results39, go_sem, l0, l1]) rfl ⟨rfl, ?_⟩
 exact ((Sm.from hW0 hb hs4).setCell (p := ⟨w.heap.size + 1 + 1, 0, none⟩) (by simp <;> omega) hb _).setCell (p := ⟨w.heap.size + 1 + 1, 1, none⟩) (by simp <;> omega) hb _
set_option maxRecDepth 100000 in
set_option maxHeartbeats 8000000 in
theorem qslope_any (b : Nat) (e : Int) (F A B C u : Int × Int) (vB : vF B = true) (vC : vF C = true) (vu : vF u = true) (w : World) (hc : w.cell? ⟨b, 0, none⟩ = some (.int .i64 e)) (hf : w.frozen? ⟨b, 0, none⟩ = false) :
  Calls Try.prog 40 #[.pointer (some ⟨b, 0, none⟩), .agg #[.int .i64 F.1, .int .i64 F.2, .int .i64 A.1, .int .i64 A.2, .int .i64 B.1, .int .i64 B.2, .int .i64 C.1, .int .i64 C.2], .agg #[.int .i64 u.1, .int .i64 u.2]] w fun z w' => z = .returned (.agg #[.int .i64 (kSlope e B C u).1.1, .int .i64 (kSlope e B C u).1.2]) ∧ Sm b (kSlope e B C u).2 w w' := by
 have hb : b < w.heap.size := World.block_lt_of_cell? _ _ hc
 obtain ⟨K1, hK1⟩ : ∃ K, kMul e C u = K := ⟨_, rfl⟩
 have vK1 : vF K1.1 = true := by rw [← hK1]; exact kMul_valid vC vu
 have HK1 : Hid (∀ w : World, w.cell? ⟨b, 0, none⟩ = some (.int .i64 e) → w.frozen? ⟨b, 0, none⟩ = false → Calls Try.prog 64 #[.pointer (some ⟨b, 0, none⟩), .agg #[.int .i64 C.1, .int .i64 C.2], .agg #[.int .i64 u.1, .int .i64 u.2]] w fun z w' => z = .returned (.agg #[.int .i64 K1.1.1, .int .i64 K1.1.2]) ∧ Sm b K1.2 w w') := Lib.hid fun w h0 h1 => by
  have := kmul_any b e C u vC vu w h0 h1
  rwa [hK1] at this
 obtain ⟨K2, hK2⟩ : ∃ K, kMul K1.2 (2, 1) K1.1 = K := ⟨_, rfl⟩
 have vK2 : vF K2.1 = true := by rw [← hK2]; exact kMul_valid vF_two vK1
 have HK2 : Hid (∀ w : World, w.cell? ⟨b, 0, none⟩ = some (.int .i64 K1.2) → w.frozen? ⟨b, 0, none⟩ = false → Calls Try.prog 64 #[.pointer (some ⟨b, 0, none⟩), .agg #[.int .i64 (2, 1).1, .int .i64 (2, 1).2], .agg #[.int .i64 K1.1.1, .int .i64 K1.1.2]] w fun z w' => z = .returned (.agg #[.int .i64 K2.1.1, .int .i64 K2.1.2]) ∧ Sm b K2.2 w w') := Lib.hid fun w h0 h1 => by
  have := kmul_any b K1.2 (2, 1) K1.1 vF_two vK1 w h0 h1
  rwa [hK2] at this
 obtain ⟨K3, hK3⟩ : ∃ K, kAdd K2.2 B K2.1 = K := ⟨_, rfl⟩
 have vK3 : vF K3.1 = true := by rw [← hK3]; exact kAdd_valid vB vK2
 have HK3 : Hid (∀ w : World, w.cell? ⟨b, 0, none⟩ = some (.int .i64 K2.2) → w.frozen? ⟨b, 0, none⟩ = false → Calls Try.prog 63 #[.pointer (some ⟨b, 0, none⟩), .agg #[.int .i64 B.1, .int .i64 B.2], .agg #[.int .i64 K2.1.1, .int .i64 K2.1.2]] w fun z w' => z = .returned (.agg #[.int .i64 K3.1.1, .int .i64 K3.1.2]) ∧ Sm b K3.2 w w') := Lib.hid fun w h0 h1 => by
  have := kadd_any b K2.2 B K2.1 vB vK2 w h0 h1
  rwa [hK3] at this
 have HR : Hid (kSlope e B C u = K3) := Lib.hid (by
  unfold kSlope
  simp only [hK1, hK2, hK3])
 rw [HR.out]
 clear hK1 vK1 hK2 vK2 hK3 vK3 vB vC vu
 go_enter Try.func40, Try.ntmps40
 go_upto_region 1 with (fail)
 have hW0 : Below w.heap.size w (((w.alloc (.cells #[.int .i64 F.1, .int .i64 F.2, .int .i64 A.1, .int .i64 A.2, .int .i64 B.1, .int .i64 B.2, .int .i64 C.1, .int .i64 C.2] 69)).alloc (.cells #[.int .i64 u.1, .int .i64 u.2] 29)).alloc (.cells #[.int .i64 0, .int .i64 0] 29)) := ((below_new _ _).alloc (by simp) _).alloc (by simp <;> omega) _
 have hz : w.heap.size + 1 + 1 < (((w.alloc (.cells #[.int .i64 F.1, .int .i64 F.2, .int .i64 A.1, .int .i64 A.2, .int .i64 B.1, .int .i64 B.2, .int .i64 C.1, .int .i64 C.2] 69)).alloc (.cells #[.int .i64 u.1, .int .i64 u.2] 29)).alloc (.cells #[.int .i64 0, .int .i64 0] 29)).heap.size := by simp
 have k0 : (((w.alloc (.cells #[.int .i64 F.1, .int .i64 F.2, .int .i64 A.1, .int .i64 A.2, .int .i64 B.1, .int .i64 B.2, .int .i64 C.1, .int .i64 C.2] 69)).alloc (.cells #[.int .i64 u.1, .int .i64 u.2] 29)).alloc (.cells #[.int .i64 0, .int .i64 0] 29)).cell? ⟨w.heap.size, 2, none⟩ = some (.int .i64 A.1) := by simp [go_sem, World.cell?_alloc_past]
 have k1 : (((w.alloc (.cells #[.int .i64 F.1, .int .i64 F.2, .int .i64 A.1, .int .i64 A.2, .int .i64 B.1, .int .i64 B.2, .int .i64 C.1, .int .i64 C.2] 69)).alloc (.cells #[.int .i64 u.1, .int .i64 u.2] 29)).alloc (.cells #[.int .i64 0, .int .i64 0] 29)).cell? ⟨w.heap.size, 3, none⟩ = some (.int .i64 A.2) := by simp [go_sem, World.cell?_alloc_past]
 have k2 : (((w.alloc (.cells #[.int .i64 F.1, .int .i64 F.2, .int .i64 A.1, .int .i64 A.2, .int .i64 B.1, .int .i64 B.2, .int .i64 C.1, .int .i64 C.2] 69)).alloc (.cells #[.int .i64 u.1, .int .i64 u.2] 29)).alloc (.cells #[.int .i64 0, .int .i64 0] 29)).cell? ⟨w.heap.size, 4, none⟩ = some (.int .i64 B.1) := by simp [go_sem, World.cell?_alloc_past]
 have k3 : (((w.alloc (.cells #[.int .i64 F.1, .int .i64 F.2, .int .i64 A.1, .int .i64 A.2, .int .i64 B.1, .int .i64 B.2, .int .i64 C.1, .int .i64 C.2] 69)).alloc (.cells #[.int .i64 u.1, .int .i64 u.2] 29)).alloc (.cells #[.int .i64 0, .int .i64 0] 29)).cell? ⟨w.heap.size, 5, none⟩ = some (.int .i64 B.2) := by simp [go_sem, World.cell?_alloc_past]
 have k4 : (((w.alloc (.cells #[.int .i64 F.1, .int .i64 F.2, .int .i64 A.1, .int .i64 A.2, .int .i64 B.1, .int .i64 B.2, .int .i64 C.1, .int .i64 C.2] 69)).alloc (.cells #[.int .i64 u.1, .int .i64 u.2] 29)).alloc (.cells #[.int .i64 0, .int .i64 0] 29)).cell? ⟨w.heap.size, 6, none⟩ = some (.int .i64 C.1) := by simp [go_sem, World.cell?_alloc_past]
 have k5 : (((w.alloc (.cells #[.int .i64 F.1, .int .i64 F.2, .int .i64 A.1, .int .i64 A.2, .int .i64 B.1, .int .i64 B.2, .int .i64 C.1, .int .i64 C.2] 69)).alloc (.cells #[.int .i64 u.1, .int .i64 u.2] 29)).alloc (.cells #[.int .i64 0, .int .i64 0] 29)).cell? ⟨w.heap.size, 7, none⟩ = some (.int .i64 C.2) := by simp [go_sem, World.cell?_alloc_past]
 have k6 : (((w.alloc (.cells #[.int .i64 F.1, .int .i64 F.2, .int .i64 A.1, .int .i64 A.2, .int .i64 B.1, .int .i64 B.2, .int .i64 C.1, .int .i64 C.2] 69)).alloc (.cells #[.int .i64 u.1, .int .i64 u.2] 29)).alloc (.cells #[.int .i64 0, .int .i64 0] 29)).cell? ⟨w.heap.size + 1, 0, none⟩ = some (.int .i64 u.1) := by simp [go_sem]
 have k7 : (((w.alloc (.cells #[.int .i64 F.1, .int .i64 F.2, .int .i64 A.1, .int .i64 A.2, .int .i64 B.1, .int .i64 B.2, .int .i64 C.1, .int .i64 C.2] 69)).alloc (.cells #[.int .i64 u.1, .int .i64 u.2] 29)).alloc (.cells #[.int .i64 0, .int .i64 0] 29)).cell? ⟨w.heap.size + 1, 1, none⟩ = some (.int .i64 u.2) := by simp [go_sem]
 have k8 : (((w.alloc (.cells #[.int .i64 F.1, .int .i64 F.2, .int .i64 A.1, .int .i64 A.2, .int .i64 B.1, .int .i64 B.2, .int .i64 C.1, .int .i64 C.2] 69)).alloc (.cells #[.int .i64 u.1, .int .i64 u.2] 29)).alloc (.cells #[.int .i64 0, .int .i64 0] 29)).cell? ⟨w.heap.size + 1 + 1, 0, none⟩ = some (.int .i64 0) := by simp [go_sem]
 have k9 : (((w.alloc (.cells #[.int .i64 F.1, .int .i64 F.2, .int .i64 A.1, .int .i64 A.2, .int .i64 B.1, .int .i64 B.2, .int .i64 C.1, .int .i64 C.2] 69)).alloc (.cells #[.int .i64 u.1, .int .i64 u.2] 29)).alloc (.cells #[.int .i64 0, .int .i64 0] 29)).cell? ⟨w.heap.size + 1 + 1, 1, none⟩ = some (.int .i64 0) := by simp [go_sem]
 have f0 : (((w.alloc (.cells #[.int .i64 F.1, .int .i64 F.2, .int .i64 A.1, .int .i64 A.2, .int .i64 B.1, .int .i64 B.2, .int .i64 C.1, .int .i64 C.2] 69)).alloc (.cells #[.int .i64 u.1, .int .i64 u.2] 29)).alloc (.cells #[.int .i64 0, .int .i64 0] 29)).frozen? ⟨w.heap.size + 1 + 1, 0, none⟩ = false := by simp [go_sem]
 have f1 : (((w.alloc (.cells #[.int .i64 F.1, .int .i64 F.2, .int .i64 A.1, .int .i64 A.2, .int .i64 B.1, .int .i64 B.2, .int .i64 C.1, .int .i64 C.2] 69)).alloc (.cells #[.int .i64 u.1, .int .i64 u.2] 29)).alloc (.cells #[.int .i64 0, .int .i64 0] 29)).frozen? ⟨w.heap.size + 1 + 1, 1, none⟩ = false := by simp [go_sem]
 have hs0 := Sm.of hW0 hc hf
 have hc0 := hs0.cell
 have hf0 := hs0.free
 generalize (((w.alloc (.cells #[.int .i64 F.1, .int .i64 F.2, .int .i64 A.1, .int .i64 A.2, .int .i64 B.1, .int .i64 B.2, .int .i64 C.1, .int .i64 C.2] 69)).alloc (.cells #[.int .i64 u.1, .int .i64 u.2] 29)).alloc (.cells #[.int .i64 0, .int .i64 0] 29)) = W0 at *
 have HX : Hid (∀ x w', Sm b x W0 w' → w.heap.size ≤ w'.heap.size ∧ w'.cell? ⟨w.heap.size, 2, none⟩ = some (.int .i64 A.1) ∧ w'.cell? ⟨w.heap.size, 3, none⟩ = some (.int .i64 A.2) ∧ w'.cell? ⟨w.heap.size, 4, none⟩ = some (.int .i64 B.1) ∧ w'.cell? ⟨w.heap.size, 5, none⟩ = some (.int .i64 B.2) ∧ w'.cell? ⟨w.heap.size, 6, none⟩ = some (.int .i64 C.1) ∧ w'.cell? ⟨w.heap.size, 7, none⟩ = some (.int .i64 C.2) ∧ w'.cell? ⟨w.heap.size + 1, 0, none⟩ = some (.int .i64 u.1) ∧ w'.cell? ⟨w.heap.size + 1, 1, none⟩ = some (.int .i64 u.2)) := Lib.hid fun x w' h =>
  ⟨Nat.le_trans hW0.size h.size, (h.other (p := ⟨w.heap.size, 2, none⟩) (by simp <;> omega) (by simp <;> omega)).trans k0, (h.other (p := ⟨w.heap.size, 3, none⟩) (by simp <;> omega) (by simp <;> omega)).trans k1, (h.other (p := ⟨w.heap.size, 4, none⟩) (by simp <;> omega) (by simp <;> omega)).trans k2, (h.other (p := ⟨w.heap.size, 5, none⟩) (by simp <;> omega) (by simp <;> omega)).trans k3, (h.other (p := ⟨w.heap.size, 6, none⟩) (by simp <;> omega) (by simp <;> omega)).trans k4, (h.other (p := ⟨w.heap.size, 7, none⟩) (by simp <;> omega) (by simp <;> omega)).trans k5, (h.other (p := ⟨w.heap.size + 1, 0, none⟩) (by simp <;> omega) (by simp <;> omega)).trans k6, (h.other (p := ⟨w.heap.size + 1, 1, none⟩) (by simp <;> omega) (by simp <;> omega)).trans k7⟩
 have HY : Hid (∀ x w', Sm b x W0 w' → w'.cell? ⟨w.heap.size + 1 + 1, 0, none⟩ = some (.int .i64 0) ∧ w'.cell? ⟨w.heap.size + 1 + 1, 1, none⟩ = some (.int .i64 0) ∧ w'.frozen? ⟨w.heap.size + 1 + 1, 0, none⟩ = false ∧ w'.frozen? ⟨w.heap.size + 1 + 1, 1, none⟩ = false) := Lib.hid fun x w' h =>
  ⟨(h.other (p := ⟨w.heap.size + 1 + 1, 0, none⟩) (by simp <;> omega) (by simp <;> omega)).trans k8, (h.other (p := ⟨w.heap.size + 1 + 1, 1, none⟩) (by simp <;> omega) (by simp <;> omega)).trans k9, (h.otherF (p := ⟨w.heap.size + 1 + 1, 0, none⟩) (by simp <;> omega) (by simp <;> omega)).trans f0, (h.otherF (p := ⟨w.heap.size + 1 + 1, 1, none⟩) (by simp <;> omega) (by simp <;> omega)).trans f1⟩
 have hbz : b < W0.heap.size := by omega
 have HZ : Hid (∀ x w', Sm b x W0 w' → ∀ v0 v1, (fun w' => w.heap.size ≤ w'.heap.size ∧ w'.cell? ⟨w.heap.size, 2, none⟩ = some (.int .i64 A.1) ∧ w'.cell? ⟨w.heap.size, 3, none⟩ = some (.int .i64 A.2) ∧ w'.cell? ⟨w.heap.size, 4, none⟩ = some (.int .i64 B.1) ∧ w'.cell? ⟨w.heap.size, 5, none⟩ = some (.int .i64 B.2) ∧ w'.cell? ⟨w.heap.size, 6, none⟩ = some (.int .i64 C.1) ∧ w'.cell? ⟨w.heap.size, 7, none⟩ = some (.int .i64 C.2) ∧ w'.cell? ⟨w.heap.size + 1, 0, none⟩ = some (.int .i64 u.1) ∧ w'.cell? ⟨w.heap.size + 1, 1, none⟩ = some (.int .i64 u.2)) ((w'.setCell ⟨w.heap.size + 1 + 1, 0, none⟩ v0).setCell ⟨w.heap.size + 1 + 1, 1, none⟩ v1)) := Lib.hid fun x w' h v0 v1 => by
  obtain ⟨h0, h1, h2, h3, h4, h5, h6, h7, h8⟩ := HX.out x w' h
  refine ⟨by simpa using h0, ?_, ?_, ?_, ?_, ?_, ?_, ?_, ?_⟩
  all_goals (refine (two_other (by omega) _ _ _).trans ?_; assumption)
 have hsd : Sm b e W0 W0.drew := (Sm.refl hc0 hf0).drew
 clear hc hf hc0 hf0 hs0 f0 f1 k0 k1 k2 k3 k4 k5 k6 k7 k8 k9
 refine wp_region_held_drew (S := (fun w' => w.heap.size ≤ w'.heap.size ∧ w'.cell? ⟨w.heap.size, 2, none⟩ = some (.int .i64 A.1) ∧ w'.cell? ⟨w.heap.size, 3, none⟩ = some (.int .i64 A.2) ∧ w'.cell? ⟨w.heap.size, 4, none⟩ = some (.int .i64 B.1) ∧ w'.cell? ⟨w.heap.size, 5, none⟩ = some (.int .i64 B.2) ∧ w'.cell? ⟨w.heap.size, 6, none⟩ = some (.int .i64 C.1) ∧ w'.cell? ⟨w.heap.size, 7, none⟩ = some (.int .i64 C.2) ∧ w'.cell? ⟨w.heap.size + 1, 0, none⟩ = some (.int .i64 u.1) ∧ w'.cell? ⟨w.heap.size + 1, 1, none⟩ = some (.int .i64 u.2))) (by kernel_rfl) (HX.out _ _ hsd) (fun hHeld => ?_)
 refine tkB 0 ?_
 simp only [Act.put, List.setIfInBounds_toArray, List.set_cons_zero, List.set_cons_succ, List.getElem_toArray, List.getElem_cons_zero]
 refine tkB 1 ?_
 simp only [Act.put, List.setIfInBounds_toArray, List.set_cons_zero, List.set_cons_succ, List.getElem_toArray, List.getElem_cons_succ, List.getElem_cons_zero]
 refine tkB 2 ?_
 simp only [Act.put, List.setIfInBounds_toArray, List.set_cons_zero, List.set_cons_succ, List.getElem_toArray, List.getElem_cons_succ, List.getElem_cons_zero]
 refine tkB 3 ?_
 simp only [Act.put, List.setIfInBounds_toArray, List.set_cons_zero, List.set_cons_succ, List.getElem_toArray, List.getElem_cons_succ, List.getElem_cons_zero]
 refine tkB 4 ?_
 simp only [Act.put, List.setIfInBounds_toArray, List.set_cons_zero, List.set_cons_succ, List.getElem_toArray, List.getElem_cons_succ, List.getElem_cons_zero]
 refine tkB 5 ?_
 simp only [Act.put, List.setIfInBounds_toArray, List.set_cons_zero, List.set_cons_succ, List.getElem_toArray, List.getElem_cons_succ, List.getElem_cons_zero]
 refine tkB 6 ?_
 simp only [Act.put, List.setIfInBounds_toArray, List.set_cons_zero, List.set_cons_succ, List.getElem_toArray, List.getElem_cons_succ, List.getElem_cons_zero]
 refine tkB 7 ?_
 simp only [Act.put, List.setIfInBounds_toArray, List.set_cons_zero, List.set_cons_succ, List.getElem_toArray, List.getElem_cons_succ, List.getElem_cons_zero]
 refine tkB 8 ?_
 simp only [Act.put, List.setIfInBounds_toArray, List.set_cons_zero, List.set_cons_succ, List.getElem_toArray, List.getElem_cons_succ, List.getElem_cons_zero]
 refine wpAnyH_ready (rs := [9]) (by kernel_rfl) (by simp) ?_
 refine AllReadyH.cons (o := _) rfl (fun K hK => ?_) AllReadyH.nil
 try simp only [List.getElem_toArray, List.getElem_cons_succ, List.getElem_cons_zero]
 go_simp
 (go_at_call 64; go_split_ands; (with_reducible refine (HK1.out _ hsd.cell hsd.free).mono ?_); rintro z w1 ⟨rfl, ht1⟩; have hs1 := hsd.trans ht1)
 go_wp2_with fail
 refine hK.out _ _ (HX.out _ _ hs1) (fun hHeld => ?_)
 clear hK K
 try simp only [Act.put, List.setIfInBounds_toArray, List.set_cons_zero, List.set_cons_succ, List.getElem_toArray, List.getElem_cons_succ, List.getElem_cons_zero]
 refine wpAnyH_ready (rs := [10]) (by kernel_rfl) (by simp) ?_
 refine AllReadyH.cons (o := _) rfl (fun K hK => ?_) AllReadyH.nil
 try simp only [List.getElem_toArray, List.getElem_cons_succ, List.getElem_cons_zero]
 go_simp
 (go_at_call 64; go_split_ands; (with_reducible refine (HK2.out _ hs1.cell hs1.free).mono ?_); rintro z w2 ⟨rfl, ht2⟩; have hs2 := hs1.trans ht2)
 go_wp2_with fail
 refine hK.out _ _ (HX.out _ _ hs2) (fun hHeld => ?_)
 clear hK K
 try simp only [Act.put, List.setIfInBounds_toArray, List.set_cons_zero, List.set_cons_succ, List.getElem_toArray, List.getElem_cons_succ, List.getElem_cons_zero]
 refine wpAnyH_ready (rs := [11]) (by kernel_rfl) (by simp) ?_
 refine AllReadyH.cons (o := _) rfl (fun K hK => ?_) AllReadyH.nil
 try simp only [List.getElem_toArray, List.getElem_cons_succ, List.getElem_cons_zero]
 go_simp
 (go_at_call 63; go_split_ands; (with_reducible refine (HK3.out _ hs2.cell hs2.free).mono ?_); rintro z w3 ⟨rfl, ht3⟩; have hs3 := hs2.trans ht3)
 go_wp2_with fail
 refine hK.out _ _ (HX.out _ _ hs3) (fun hHeld => ?_)
 clear hK K
 try simp only [Act.put, List.setIfInBounds_toArray, List.set_cons_zero, List.set_cons_succ, List.getElem_toArray, List.getElem_cons_succ, List.getElem_cons_zero]
 refine wpAnyH_ready (rs := [12]) (by kernel_rfl) (by simp) ?_
 refine AllReadyH.cons (o := _) rfl (fun K hK => ?_) AllReadyH.nil
 go_split_ands
 obtain ⟨g0, g1, g2, g3⟩ := HY.out _ _ hs3
 try simp only [List.getElem_toArray, List.getElem_cons_succ, List.getElem_cons_zero]
 go_wp2_with fail
 skip
 refine hK.out _ _ (HZ.out _ _ hs3 _ _) (fun hHeld => ?_)
 clear hK K
 try simp only [Act.put, List.setIfInBounds_toArray, List.set_cons_zero, List.set_cons_succ, List.getElem_toArray, List.getElem_cons_succ, List.getElem_cons_zero]
 refine wpAnyH_done (by kernel_rfl) ?_ _
 go_wp2_with fail
 have l0 := (two_cells (v0 := .int .i64 K3.1.1) (v1 := .int .i64 K3.1.2) g0 g1).1
 have l1 := (two_cells (v0 := .int .i64 K3.1.1) (v1 := .int .i64 K3.1.2) g0 g1).2
 refine bodyPost_ret (v := .agg #[.int .i64 K3.1.1, .int .i64 K3.1.2]) (by simp [results, Try.results40, go_sem, l0, l1]) rfl ⟨rfl, ?_⟩
 exact ((Sm.from hW0 hb hs3).setCell (p := ⟨w.heap.size + 1 + 1, 0, none⟩) (by simp <;> omega) hb _).setCell (p := ⟨w.heap.size + 1 + 1, 1, none⟩) (by simp <;> omega) hb _
set_option maxHeartbeats 4000000 in
theorem qresult_any (b : Nat) (e : Int) (x : Int × Int) (w : World) (hc : w.cell? ⟨b, 0, none⟩ = some (.int .i64 e)) :
  Calls Try.prog 43 #[.pointer (some ⟨b, 0, none⟩), .agg #[.int .i64 x.1, .int .i64 x.2]] w fun z w' => z = .returned (.tuple #[.agg #[.int .i64 (if e = 0 then x.1 else 0), .int .i64 (if e = 0 then x.2 else 0)], .int .i64 e]) ∧ Below w.heap.size w w' := by
 have hb : b < w.heap.size := World.block_lt_of_cell? _ _ hc
 by_cases z : e = 0
 ·rw [if_pos z, if_pos z]
  subst z
  go_enter Try.func43, Try.ntmps43
  go_wp2_with fail
  refine bodyPost_ret (v := .tuple #[.agg #[.int .i64 x.1, .int .i64 x.2], .int .i64 0]) (by simp [results, Try.results43, go_sem]) rfl ⟨rfl, ?_⟩
  exact (below_new _ _).alloc (by simp) _
 ·rw [if_neg z, if_neg z]
  have z1 : (e == 0) = false := beq_eq_false_iff_ne.2 z
  have z2 : (e != 0) = true := by simpa using z
  clear z
  go_enter Try.func43, Try.ntmps43
  go_upto_region 2 with (fail)
  go_region
  all_goals go_wp2_with fail
  all_goals refine bodyPost_ret (v := .tuple #[.agg #[.int .i64 0, .int .i64 0], .int .i64 e]) (by simp [results, Try.results43, go_sem]) rfl ⟨rfl, ?_⟩
  all_goals exact ((below_new _ _).alloc (by simp) _).drew
end Go.Proofs.Ytbgkgahmicepdaa
namespace Go.Proofs.Ytbgkgahmicepdaa
open Go.RowKit Go.Shelf
structure PcOK (p : Pc) : Prop where
 f : validF p.f0 p.f1 = true
 a : validF p.a0 p.a1 = true
 b : validF p.b0 p.b1 = true
 c : validF p.c0 p.c1 = true
structure CurveOK (L : List Pc) : Prop where
 pos : 1 ≤ L.length
 len : L.length ≤ 200
 val : ∀ i, i < L.length → PcOK (pcg L i)
 asc : ∀ i, i + 1 < L.length → (pcg L i).f0 * (pcg L (i + 1)).f1 < (pcg L (i + 1)).f0 * (pcg L i).f1
theorem cmpP_lt {x y : Int} (h : x < y) : cmpP x y = -1 := by unfold cmpP; rw [if_neg (by omega), if_pos h]
theorem cmpP_le {x y : Int} : cmpP x y ≤ 0 ↔ x ≤ y := by unfold cmpP; split <;> (try split) <;> omega
set_option maxHeartbeats 1000000 in
theorem compare_any (an ad bn bd : Int) (va : validF an ad = true) (vb : validF bn bd = true) (w : World) :
  Calls Try.prog 41 #[.agg #[.int .i64 an, .int .i64 ad], .agg #[.int .i64 bn, .int .i64 bd]] w fun e w' => e = .returned (.int .i64 (cmpP (an * bd) (bn * ad))) ∧ Below w.heap.size w w' := by
 have HC := Lib.hid (cmp_all an ad bn bd va vb)
 generalize cmpP (an * bd) (bn * ad) = C at *
 clear va vb
 go_enter Try.func41, Try.ntmps41
 go_wp2_with (go_at_call 12; (with_reducible refine (HC.out _).mono ?_); rintro e w1 ⟨rfl, hb1⟩)
 go_ret
 exact ⟨rfl, ((below_new _ _).alloc (by simp) _).trans (hb1.mono (by simp <;> omega))⟩
set_option maxRecDepth 100000 in
set_option maxHeartbeats 8000000 in
theorem qvalid_yes (L : List Pc) (ok : CurveOK L) (a : Option Addr) (c : Nat) (w : World) (hL : Pcs w.heap.size w a L) :
  Calls Try.prog 17 #[.slice a L.length c] w fun e w' => e = .returned (.bool true) ∧ Below w.heap.size w w' := by
 have hl1 := ok.pos
 have hl2 := ok.len
 have HOK := Lib.hid ok
 have g1 : decide ((L.length : Int) < 1) = false := decide_eq_false (by omega)
 have g2 : decide (200 < (L.length : Int)) = false := decide_eq_false (by omega)
 have g3 : decide (200 < L.length) = false := decide_eq_false (by omega)
 obtain ⟨b, off, rfl, hb, hc⟩ := hL (by omega)
 have HC := Lib.hid hc
 clear ok hc hL
 go_enter Try.func17, Try.ntmps17
 go_wp2_with fail
 clear g1 g2 g3
 go_loopw [15] (fun i wr => ∃ k : Nat, k ≤ L.length ∧ i = .int .i64 k ∧ Below w.heap.size w wr) (fun i _ => L.length - (intOf i).toNat)
 case atStart => exact ⟨0, Nat.zero_le _, rfl, Below.refl _ _⟩
 case round =>
  obtain ⟨k, hk, rfl, hB⟩ := hrel
  have hbs := hB.size
  by_cases hlt : k < L.length
  ·obtain ⟨c0, c1, c2, c3, c4, c5, c6, c7⟩ := HC.out k hlt
   have d0 := (hB.cell (p := ⟨b, off + k * 8, none⟩) hb).trans c0
   have d1 := (hB.cell (p := ⟨b, off + k * 8 + 1, none⟩) hb).trans c1
   have d2 := (hB.cell (p := ⟨b, off + k * 8 + 2, none⟩) hb).trans c2
   have d3 := (hB.cell (p := ⟨b, off + k * 8 + 3, none⟩) hb).trans c3
   have d4 := (hB.cell (p := ⟨b, off + k * 8 + 4, none⟩) hb).trans c4
   have d5 := (hB.cell (p := ⟨b, off + k * 8 + 5, none⟩) hb).trans c5
   have d6 := (hB.cell (p := ⟨b, off + k * 8 + 6, none⟩) hb).trans c6
   have d7 := (hB.cell (p := ⟨b, off + k * 8 + 7, none⟩) hb).trans c7
   have hok := HOK.out.val k hlt
   have HVf := Lib.hid hok.f
   have HVa := Lib.hid hok.a
   have HVb := Lib.hid hok.b
   have HVc := Lib.hid hok.c
   have i0 : 0 ≤ (k : Int) := by omega
   have i1 : (k : Int) < (L.length : Int) := by omega
   have s1 : IntKind.i64.wrap ((k : Int) + 1) = (k : Int) + 1 := IntWalk.i64_in _ (by omega)
   clear c0 c1 c2 c3 c4 c5 c6 c7 hok
   have hn0 : wr.heap.size < (wr.alloc (.cells #[.int .i64 (pcg L k).f0, .int .i64 (pcg L k).f1, .int .i64 (pcg L k).a0, .int .i64 (pcg L k).a1, .int .i64 (pcg L k).b0, .int .i64 (pcg L k).b1, .int .i64 (pcg L k).c0, .int .i64 (pcg L k).c1] 69)).heap.size := by simp
   have z0_0 : (wr.alloc (.cells #[.int .i64 (pcg L k).f0, .int .i64 (pcg L k).f1, .int .i64 (pcg L k).a0, .int .i64 (pcg L k).a1, .int .i64 (pcg L k).b0, .int .i64 (pcg L k).b1, .int .i64 (pcg L k).c0, .int .i64 (pcg L k).c1] 69)).cell? ⟨wr.heap.size, 0, none⟩ = some (.int .i64 (pcg L k).f0) := by simp
   have z0_1 : (wr.alloc (.cells #[.int .i64 (pcg L k).f0, .int .i64 (pcg L k).f1, .int .i64 (pcg L k).a0, .int .i64 (pcg L k).a1, .int .i64 (pcg L k).b0, .int .i64 (pcg L k).b1, .int .i64 (pcg L k).c0, .int .i64 (pcg L k).c1] 69)).cell? ⟨wr.heap.size, 1, none⟩ = some (.int .i64 (pcg L k).f1) := by simp
   have z0_2 : (wr.alloc (.cells #[.int .i64 (pcg L k).f0, .int .i64 (pcg L k).f1, .int .i64 (pcg L k).a0, .int .i64 (pcg L k).a1, .int .i64 (pcg L k).b0, .int .i64 (pcg L k).b1, .int .i64 (pcg L k).c0, .int .i64 (pcg L k).c1] 69)).cell? ⟨wr.heap.size, 2, none⟩ = some (.int .i64 (pcg L k).a0) := by simp
   have z0_3 : (wr.alloc (.cells #[.int .i64 (pcg L k).f0, .int .i64 (pcg L k).f1, .int .i64 (pcg L k).a0, .int .i64 (pcg L k).a1, .int .i64 (pcg L k).b0, .int .i64 (pcg L k).b1, .int .i64 (pcg L k).c0, .int .i64 (pcg L k).c1] 69)).cell? ⟨wr.heap.size, 3, none⟩ = some (.int .i64 (pcg L k).a1) := by simp
   have z0_4 : (wr.alloc (.cells #[.int .i64 (pcg L k).f0, .int .i64 (pcg L k).f1, .int .i64 (pcg L k).a0, .int .i64 (pcg L k).a1, .int .i64 (pcg L k).b0, .int .i64 (pcg L k).b1, .int .i64 (pcg L k).c0, .int .i64 (pcg L k).c1] 69)).cell? ⟨wr.heap.size, 4, none⟩ = some (.int .i64 (pcg L k).b0) := by simp
   have z0_5 : (wr.alloc (.cells #[.int .i64 (pcg L k).f0, .int .i64 (pcg L k).f1, .int .i64 (pcg L k).a0, .int .i64 (pcg L k).a1, .int .i64 (pcg L k).b0, .int .i64 (pcg L k).b1, .int .i64 (pcg L k).c0, .int .i64 (pcg L k).c1] 69)).cell? ⟨wr.heap.size, 5, none⟩ = some (.int .i64 (pcg L k).b1) := by simp
   have z0_6 : (wr.alloc (.cells #[.int .i64 (pcg L k).f0, .int .i64 (pcg L k).f1, .int .i64 (pcg L k).a0, .int .i64 (pcg L k).a1, .int .i64 (pcg L k).b0, .int .i64 (pcg L k).b1, .int .i64 (pcg L k).c0, .int .i64 (pcg L k).c1] 69)).cell? ⟨wr.heap.size, 6, none⟩ = some (.int .i64 (pcg L k).c0) := by simp
   have z0_7 : (wr.alloc (.cells #[.int .i64 (pcg L k).f0, .int .i64 (pcg L k).f1, .int .i64 (pcg L k).a0, .int .i64 (pcg L k).a1, .int .i64 (pcg L k).b0, .int .i64 (pcg L k).b1, .int .i64 (pcg L k).c0, .int .i64 (pcg L k).c1] 69)).cell? ⟨wr.heap.size, 7, none⟩ = some (.int .i64 (pcg L k).c1) := by simp
   go_upto_region 8 with (first
    | (go_at_call 25; (with_reducible refine (valid_any (pcg L k).f0 (pcg L k).f1 _).mono ?_); rintro e w1 ⟨rfl, hv1⟩; rw [HVf.out]; have z1_0 : w1.cell? ⟨wr.heap.size, 0, none⟩ = some (.int .i64 (pcg L k).f0) := (hv1.cell (p := ⟨wr.heap.size, 0, none⟩) hn0).trans z0_0; have z1_1 : w1.cell? ⟨wr.heap.size, 1, none⟩ = some (.int .i64 (pcg L k).f1) := (hv1.cell (p := ⟨wr.heap.size, 1, none⟩) hn0).trans z0_1; have z1_2 : w1.cell? ⟨wr.heap.size, 2, none⟩ = some (.int .i64 (pcg L k).a0) := (hv1.cell (p := ⟨wr.heap.size, 2, none⟩) hn0).trans z0_2; have z1_3 : w1.cell? ⟨wr.heap.size, 3, none⟩ = some (.int .i64 (pcg L k).a1) := (hv1.cell (p := ⟨wr.heap.size, 3, none⟩) hn0).trans z0_3; have z1_4 : w1.cell? ⟨wr.heap.size, 4, none⟩ = some (.int .i64 (pcg L k).b0) := (hv1.cell (p := ⟨wr.heap.size, 4, none⟩) hn0).trans z0_4; have z1_5 : w1.cell? ⟨wr.heap.size, 5, none⟩ = some (.int .i64 (pcg L k).b1) := (hv1.cell (p := ⟨wr.heap.size, 5, none⟩) hn0).trans z0_5; have z1_6 : w1.cell? ⟨wr.heap.size, 6, none⟩ = some (.int .i64 (pcg L k).c0) := (hv1.cell (p := ⟨wr.heap.size, 6, none⟩) hn0).trans z0_6; have z1_7 : w1.cell? ⟨wr.heap.size, 7, none⟩ = some (.int .i64 (pcg L k).c1) := (hv1.cell (p := ⟨wr.heap.size, 7, none⟩) hn0).trans z0_7; have hn1 : wr.heap.size < w1.heap.size := World.block_lt_of_cell? _ _ z1_0)
    | (go_at_call 25; (with_reducible refine (valid_any (pcg L k).a0 (pcg L k).a1 _).mono ?_); rintro e w2 ⟨rfl, hv2⟩; rw [HVa.out]; have z2_0 : w2.cell? ⟨wr.heap.size, 0, none⟩ = some (.int .i64 (pcg L k).f0) := (hv2.cell (p := ⟨wr.heap.size, 0, none⟩) hn1).trans z1_0; have z2_1 : w2.cell? ⟨wr.heap.size, 1, none⟩ = some (.int .i64 (pcg L k).f1) := (hv2.cell (p := ⟨wr.heap.size, 1, none⟩) hn1).trans z1_1; have z2_2 : w2.cell? ⟨wr.heap.size, 2, none⟩ = some (.int .i64 (pcg L k).a0) := (hv2.cell (p := ⟨wr.heap.size, 2, none⟩) hn1).trans z1_2; have z2_3 : w2.cell? ⟨wr.heap.size, 3, none⟩ = some (.int .i64 (pcg L k).a1) := (hv2.cell (p := ⟨wr.heap.size, 3, none⟩) hn1).trans z1_3; have z2_4 : w2.cell? ⟨wr.heap.size, 4, none⟩ = some (.int .i64 (pcg L k).b0) := (hv2.cell (p := ⟨wr.heap.size, 4, none⟩) hn1).trans z1_4; have z2_5 : w2.cell? ⟨wr.heap.size, 5, none⟩ = some (.int .i64 (pcg L k).b1) := (hv2.cell (p := ⟨wr.heap.size, 5, none⟩) hn1).trans z1_5; have z2_6 : w2.cell? ⟨wr.heap.size, 6, none⟩ = some (.int .i64 (pcg L k).c0) := (hv2.cell (p := ⟨wr.heap.size, 6, none⟩) hn1).trans z1_6; have z2_7 : w2.cell? ⟨wr.heap.size, 7, none⟩ = some (.int .i64 (pcg L k).c1) := (hv2.cell (p := ⟨wr.heap.size, 7, none⟩) hn1).trans z1_7; have hn2 : wr.heap.size < w2.heap.size := World.block_lt_of_cell? _ _ z2_0)
    | (go_at_call 25; (with_reducible refine (valid_any (pcg L k).b0 (pcg L k).b1 _).mono ?_); rintro e w3 ⟨rfl, hv3⟩; rw [HVb.out]; have z3_0 : w3.cell? ⟨wr.heap.size, 0, none⟩ = some (.int .i64 (pcg L k).f0) := (hv3.cell (p := ⟨wr.heap.size, 0, none⟩) hn2).trans z2_0; have z3_1 : w3.cell? ⟨wr.heap.size, 1, none⟩ = some (.int .i64 (pcg L k).f1) := (hv3.cell (p := ⟨wr.heap.size, 1, none⟩) hn2).trans z2_1; have z3_2 : w3.cell? ⟨wr.heap.size, 2, none⟩ = some (.int .i64 (pcg L k).a0) := (hv3.cell (p := ⟨wr.heap.size, 2, none⟩) hn2).trans z2_2; have z3_3 : w3.cell? ⟨wr.heap.size, 3, none⟩ = some (.int .i64 (pcg L k).a1) := (hv3.cell (p := ⟨wr.heap.size, 3, none⟩) hn2).trans z2_3; have z3_4 : w3.cell? ⟨wr.heap.size, 4, none⟩ = some (.int .i64 (pcg L k).b0) := (hv3.cell (p := ⟨wr.heap.size, 4, none⟩) hn2).trans z2_4; have z3_5 : w3.cell? ⟨wr.heap.size, 5, none⟩ = some (.int .i64 (pcg L k).b1) := (hv3.cell (p := ⟨wr.heap.size, 5, none⟩) hn2).trans z2_5; have z3_6 : w3.cell? ⟨wr.heap.size, 6, none⟩ = some (.int .i64 (pcg L k).c0) := (hv3.cell (p := ⟨wr.heap.size, 6, none⟩) hn2).trans z2_6; have z3_7 : w3.cell? ⟨wr.heap.size, 7, none⟩ = some (.int .i64 (pcg L k).c1) := (hv3.cell (p := ⟨wr.heap.size, 7, none⟩) hn2).trans z2_7; have hn3 : wr.heap.size < w3.heap.size := World.block_lt_of_cell? _ _ z3_0)
    | (go_at_call 25; (with_reducible refine (valid_any (pcg L k).c0 (pcg L k).c1 _).mono ?_); rintro e w4 ⟨rfl, hv4⟩; rw [HVc.out]; have z4_0 : w4.cell? ⟨wr.heap.size, 0, none⟩ = some (.int .i64 (pcg L k).f0) := (hv4.cell (p := ⟨wr.heap.size, 0, none⟩) hn3).trans z3_0; have z4_1 : w4.cell? ⟨wr.heap.size, 1, none⟩ = some (.int .i64 (pcg L k).f1) := (hv4.cell (p := ⟨wr.heap.size, 1, none⟩) hn3).trans z3_1; have z4_2 : w4.cell? ⟨wr.heap.size, 2, none⟩ = some (.int .i64 (pcg L k).a0) := (hv4.cell (p := ⟨wr.heap.size, 2, none⟩) hn3).trans z3_2; have z4_3 : w4.cell? ⟨wr.heap.size, 3, none⟩ = some (.int .i64 (pcg L k).a1) := (hv4.cell (p := ⟨wr.heap.size, 3, none⟩) hn3).trans z3_3; have z4_4 : w4.cell? ⟨wr.heap.size, 4, none⟩ = some (.int .i64 (pcg L k).b0) := (hv4.cell (p := ⟨wr.heap.size, 4, none⟩) hn3).trans z3_4; have z4_5 : w4.cell? ⟨wr.heap.size, 5, none⟩ = some (.int .i64 (pcg L k).b1) := (hv4.cell (p := ⟨wr.heap.size, 5, none⟩) hn3).trans z3_5; have z4_6 : w4.cell? ⟨wr.heap.size, 6, none⟩ = some (.int .i64 (pcg L k).c0) := (hv4.cell (p := ⟨wr.heap.size, 6, none⟩) hn3).trans z3_6; have z4_7 : w4.cell? ⟨wr.heap.size, 7, none⟩ = some (.int .i64 (pcg L k).c1) := (hv4.cell (p := ⟨wr.heap.size, 7, none⟩) hn3).trans z3_7; have hn4 : wr.heap.size < w4.heap.size := World.block_lt_of_cell? _ _ z4_0))
   have hB4 : Below w.heap.size w w4 := ((((hB.alloc hbs _).trans (hv1.mono (by simp; omega))).trans (hv2.mono (by have := hv1.size; simp at this; omega))).trans (hv3.mono (by omega))).trans (hv4.mono (by omega))
   have hw4 : Below wr.heap.size wr w4 := ((((below_new wr _).trans (hv1.mono (by simp))).trans (hv2.mono (by omega))).trans (hv3.mono (by omega))).trans (hv4.mono (by omega))
   clear hv1 hv2 hv3 hv4 hn0 hn1 hn2 hn3 z0_0 z0_1 z0_2 z0_3 z0_4 z0_5 z0_6 z0_7 z1_0 z1_1 z1_2 z1_3 z1_4 z1_5 z1_6 z1_7 z2_0 z2_1 z2_2 z2_3 z2_4 z2_5 z2_6 z2_7 z3_0 z3_1 z3_2 z3_3 z3_4 z3_5 z3_6 z3_7 d0 d1 d2 d3 d4 d5 d6 d7 z4_2 z4_3 z4_4 z4_5 z4_6 z4_7
   have hbx := hB4.size
   rcases (show k = 0 ∨ ∃ m, k = m + 1 by cases k with | zero => exact .inl rfl | succ m => exact .inr ⟨m, rfl⟩) with rfl | ⟨m, rfl⟩
   ·go_quiet (fail)
    go_wp2_with fail
    go_roundw
    case rel => exact ⟨1, by omega, by go_num, by first | exact below_drewN hB4 _ | exact hB4.drew⟩
    case measure => simp [intOf]; omega
   ·obtain ⟨c0, c1, c2, c3, c4, c5, c6, c7⟩ := HC.out m (by omega)
    have q0 := (hB4.cell (p := ⟨b, off + m * 8, none⟩) hb).trans c0
    have q1 := (hB4.cell (p := ⟨b, off + m * 8 + 1, none⟩) hb).trans c1
    have HV1 := Lib.hid (HOK.out.val m (by omega)).f
    have HA := Lib.hid (cmpP_lt (HOK.out.asc m hlt))
    have j0 : IntKind.i64.wrap (((m + 1 : Nat) : Int) - 1) = (m : Int) := (IntWalk.i64_in _ (by omega)).trans (by omega)
    have j1 : IntKind.i64.wrap ((m : Int) + 1 - 1) = (m : Int) := (IntWalk.i64_in _ (by omega)).trans (by omega)
    have j2 : IntKind.i64.wrap (m : Int) = (m : Int) := IntWalk.i64_in _ (by omega)
    have j3 : (m : Int) < (L.length : Int) := by omega
    have j4 : decide ((0 : Int) < ((m + 1 : Nat) : Int)) = true := decide_eq_true (by omega)
    have j5 : decide ((0 : Int) < (m : Int) + 1) = true := decide_eq_true (by omega)
    have j6 : (0 : Int) ≤ (m : Int) := by omega
    have j7 : m < L.length := by omega
    clear c0 c1 c2 c3 c4 c5 c6 c7
    have hn4' := hn4
    have HSX : Hid (∀ w', Below w4.heap.size w4 w' → Below w4.heap.size w4 w' ∧ w'.cell? ⟨b, off + m * 8, none⟩ = some (.int .i64 (pcg L m).f0) ∧ w'.cell? ⟨b, off + m * 8 + 1, none⟩ = some (.int .i64 (pcg L m).f1) ∧ w'.cell? ⟨wr.heap.size, 0, none⟩ = some (.int .i64 (pcg L (m + 1)).f0) ∧ w'.cell? ⟨wr.heap.size, 1, none⟩ = some (.int .i64 (pcg L (m + 1)).f1)) := Lib.hid fun w' h =>
     ⟨h, (h.cell (p := ⟨b, off + m * 8, none⟩) (by simp; omega)).trans q0, (h.cell (p := ⟨b, off + m * 8 + 1, none⟩) (by simp; omega)).trans q1, (h.cell (p := ⟨wr.heap.size, 0, none⟩) hn4).trans z4_0, (h.cell (p := ⟨wr.heap.size, 1, none⟩) hn4).trans z4_1⟩
    clear q0 q1 z4_0 z4_1
    refine wp_region_held_drew (S := (fun w' => Below w4.heap.size w4 w' ∧ w'.cell? ⟨b, off + m * 8, none⟩ = some (.int .i64 (pcg L m).f0) ∧ w'.cell? ⟨b, off + m * 8 + 1, none⟩ = some (.int .i64 (pcg L m).f1) ∧ w'.cell? ⟨wr.heap.size, 0, none⟩ = some (.int .i64 (pcg L (m + 1)).f0) ∧ w'.cell? ⟨wr.heap.size, 1, none⟩ = some (.int .i64 (pcg L (m + 1)).f1))) (by kernel_rfl) (HSX.out _ (Below.refl _ _).drew) (fun hHeld => ?_)
    refine tkB 0 ?_
    simp only [Act.put, List.setIfInBounds_toArray, List.set_cons_zero, List.set_cons_succ, List.getElem_toArray, List.getElem_cons_zero]
    refine tkB 1 ?_
    simp only [Act.put, List.setIfInBounds_toArray, List.set_cons_zero, List.set_cons_succ, List.getElem_toArray, List.getElem_cons_succ, List.getElem_cons_zero]
    refine tkB 2 ?_
    simp only [Act.put, List.setIfInBounds_toArray, List.set_cons_zero, List.set_cons_succ, List.getElem_toArray, List.getElem_cons_succ, List.getElem_cons_zero]
    refine tkB 3 ?_
    simp only [Act.put, List.setIfInBounds_toArray, List.set_cons_zero, List.set_cons_succ, List.getElem_toArray, List.getElem_cons_succ, List.getElem_cons_zero]
    refine tkB 4 ?_
    simp only [Act.put, List.setIfInBounds_toArray, List.set_cons_zero, List.set_cons_succ, List.getElem_toArray, List.getElem_cons_succ, List.getElem_cons_zero]
    refine tkB 5 ?_
    simp only [Act.put, List.setIfInBounds_toArray, List.set_cons_zero, List.set_cons_succ, List.getElem_toArray, List.getElem_cons_succ, List.getElem_cons_zero]
    refine tkB 6 ?_
    simp only [Act.put, List.setIfInBounds_toArray, List.set_cons_zero, List.set_cons_succ, List.getElem_toArray, List.getElem_cons_succ, List.getElem_cons_zero]
    refine tkB 7 ?_
    simp only [Act.put, List.setIfInBounds_toArray, List.set_cons_zero, List.set_cons_succ, List.getElem_toArray, List.getElem_cons_succ, List.getElem_cons_zero]
    refine tkB 8 ?_
    simp only [Act.put, List.setIfInBounds_toArray, List.set_cons_zero, List.set_cons_succ, List.getElem_toArray, List.getElem_cons_succ, List.getElem_cons_zero]
    refine tkB 9 ?_
    simp only [Act.put, List.setIfInBounds_toArray, List.set_cons_zero, List.set_cons_succ, List.getElem_toArray, List.getElem_cons_succ, List.getElem_cons_zero]
    refine tkB 10 ?_
    simp only [Act.put, List.setIfInBounds_toArray, List.set_cons_zero, List.set_cons_succ, List.getElem_toArray, List.getElem_cons_succ, List.getElem_cons_zero]
    refine wpAnyH_ready (rs := [11]) (by kernel_rfl) (by simp) ?_
    refine AllReadyH.cons (o := _) rfl (fun K hK => ?_) AllReadyH.nil
    try simp only [List.getElem_toArray, List.getElem_cons_succ, List.getElem_cons_zero]
    go_simp
    (go_at_call 41; go_split_ands; (with_reducible refine (compare_any (pcg L m).f0 (pcg L m).f1 (pcg L (m + 1)).f0 (pcg L (m + 1)).f1 HV1.out HVf.out _).mono ?_); rintro e w5 ⟨rfl, hb5⟩; rw [HA.out]; have hb6 : Below w4.heap.size w4 w5 := ((Below.refl w4.heap.size w4).drew).trans hb5)
    go_wp2_with fail
    refine hK.out _ _ (HSX.out _ hb6) (fun hHeld => ?_)
    clear hK K
    try simp only [Act.put, List.setIfInBounds_toArray, List.set_cons_zero, List.set_cons_succ, List.getElem_toArray, List.getElem_cons_succ, List.getElem_cons_zero]
    refine tkB 12 ?_
    simp only [Act.put, List.setIfInBounds_toArray, List.set_cons_zero, List.set_cons_succ, List.getElem_toArray, List.getElem_cons_succ, List.getElem_cons_zero]
    refine tkB 13 ?_
    simp only [Act.put, List.setIfInBounds_toArray, List.set_cons_zero, List.set_cons_succ, List.getElem_toArray, List.getElem_cons_succ, List.getElem_cons_zero]
    refine wpAnyH_done (by kernel_rfl) ?_ _
    go_wp2_with fail
    go_roundw
    case rel => exact ⟨m + 2, by omega, by go_num, hB4.trans (hb6.mono hB4.size)⟩
    case measure => simp [intOf]; omega
  ·obtain rfl : k = L.length := by omega
   go_wp2_with fail
   go_ret
   exact ⟨rfl, hB⟩
def pieceN (L : List Pc) (t : Int × Int) : Nat → Int
 | 0 => -1
 | k + 1 => if (pcg L k).f0 * t.2 ≤ t.1 * (pcg L k).f1 then (k : Int) else pieceN L t k
set_option maxRecDepth 100000 in
set_option maxHeartbeats 8000000 in
theorem piece_any (L : List Pc) (ok : CurveOK L) (t : Int × Int) (vt : vF t = true) (a : Option Addr) (c : Nat) (w : World) (hL : Pcs w.heap.size w a L) :
  Calls Try.prog 42 #[.slice a L.length c, .agg #[.int .i64 t.1, .int .i64 t.2]] w fun e w' => e = .returned (.int .i64 (pieceN L t L.length)) ∧ Below w.heap.size w w' := by
 have hl2 := ok.len
 have HOK := Lib.hid ok
 obtain ⟨b, off, rfl, hb, hc⟩ := hL (by have := ok.pos; omega)
 have HC := Lib.hid hc
 have HT : Hid (validF t.1 t.2 = true) := Lib.hid vt
 clear ok hc hL vt
 go_enter Try.func42, Try.ntmps42
 go_wp2_with fail
 go_loopw [5, 10] (fun p i wr => ∃ k : Nat, k ≤ L.length ∧ i = .int .i64 k ∧ p = .int .i64 (pieceN L t k) ∧ Below w.heap.size w wr ∧ w.heap.size < wr.heap.size ∧ wr.cell? ⟨w.heap.size, 0, none⟩ = some (.int .i64 t.1) ∧ wr.cell? ⟨w.heap.size, 1, none⟩ = some (.int .i64 t.2)) (fun _ i _ => L.length - (intOf i).toNat)
 case atStart => exact ⟨0, Nat.zero_le _, rfl, rfl, below_new _ _, by simp, by simp, by simp⟩
 case round =>
  obtain ⟨k, hk, rfl, rfl, hB, hbs, t0, t1⟩ := hrel
  by_cases hlt : k < L.length
  ·obtain ⟨c0, c1, c2, c3, c4, c5, c6, c7⟩ := HC.out k hlt
   have d0 := (hB.cell (p := ⟨b, off + k * 8, none⟩) hb).trans c0
   have d1 := (hB.cell (p := ⟨b, off + k * 8 + 1, none⟩) hb).trans c1
   have d2 := (hB.cell (p := ⟨b, off + k * 8 + 2, none⟩) hb).trans c2
   have d3 := (hB.cell (p := ⟨b, off + k * 8 + 3, none⟩) hb).trans c3
   have d4 := (hB.cell (p := ⟨b, off + k * 8 + 4, none⟩) hb).trans c4
   have d5 := (hB.cell (p := ⟨b, off + k * 8 + 5, none⟩) hb).trans c5
   have d6 := (hB.cell (p := ⟨b, off + k * 8 + 6, none⟩) hb).trans c6
   have d7 := (hB.cell (p := ⟨b, off + k * 8 + 7, none⟩) hb).trans c7
   have HVf := Lib.hid (HOK.out.val k hlt).f
   have i0 : 0 ≤ (k : Int) := by omega
   have i1 : (k : Int) < (L.length : Int) := by omega
   have s1 : IntKind.i64.wrap ((k : Int) + 1) = (k : Int) + 1 := IntWalk.i64_in _ (by omega)
   obtain ⟨P, hP⟩ : ∃ P, pieceN L t k = P := ⟨_, rfl⟩
   rw [hP]
   obtain ⟨C, hC⟩ : ∃ C, cmpP ((pcg L k).f0 * t.2) (t.1 * (pcg L k).f1) = C := ⟨_, rfl⟩
   have HCC := Lib.hid hC
   have hle : C ≤ 0 ↔ (pcg L k).f0 * t.2 ≤ t.1 * (pcg L k).f1 := by rw [← hC]; exact cmpP_le
   have HN : Hid (pieceN L t (k + 1) = if C ≤ 0 then (k : Int) else P) := Lib.hid (by
    rw [pieceN, hP]
    by_cases h : C ≤ 0
    ·rw [if_pos h, if_pos (hle.1 h)]
    ·rw [if_neg h, if_neg (fun x => h (hle.2 x))])
   clear c0 c1 c2 c3 c4 c5 c6 c7 hC hle hP
   by_cases h : C ≤ 0
   ·have g : decide (C ≤ 0) = true := decide_eq_true h
    rw [if_pos h] at HN
    clear h
    go_wp2_with (go_at_call 41; (with_reducible refine (compare_any (pcg L k).f0 (pcg L k).f1 t.1 t.2 HVf.out HT.out _).mono ?_); rw [HCC.out]; rintro e w1 ⟨rfl, hb1⟩)
    have e0 := (hb1.cell (p := ⟨w.heap.size, 0, none⟩) (by simp <;> omega)).trans ((World.cell?_alloc_lt _ _ _ hbs).trans t0)
    have e1 := (hb1.cell (p := ⟨w.heap.size, 1, none⟩) (by simp <;> omega)).trans ((World.cell?_alloc_lt _ _ _ hbs).trans t1)
    have hB1 := (hB.alloc hB.size (.cells #[.int .i64 (pcg L k).f0, .int .i64 (pcg L k).f1, .int .i64 (pcg L k).a0, .int .i64 (pcg L k).a1, .int .i64 (pcg L k).b0, .int .i64 (pcg L k).b1, .int .i64 (pcg L k).c0, .int .i64 (pcg L k).c1] 69)).trans (hb1.mono (by simp; omega))
    go_roundw
    case rel => exact ⟨k + 1, by omega, by go_num, by rw [HN.out], hB1, World.block_lt_of_cell? _ _ e0, e0, e1⟩
    case measure => simp [intOf]; omega
   ·have g : decide (C ≤ 0) = false := decide_eq_false h
    rw [if_neg h] at HN
    clear h
    go_wp2_with (go_at_call 41; (with_reducible refine (compare_any (pcg L k).f0 (pcg L k).f1 t.1 t.2 HVf.out HT.out _).mono ?_); rw [HCC.out]; rintro e w1 ⟨rfl, hb1⟩)
    have e0 := (hb1.cell (p := ⟨w.heap.size, 0, none⟩) (by simp <;> omega)).trans ((World.cell?_alloc_lt _ _ _ hbs).trans t0)
    have e1 := (hb1.cell (p := ⟨w.heap.size, 1, none⟩) (by simp <;> omega)).trans ((World.cell?_alloc_lt _ _ _ hbs).trans t1)
    have hB1 := (hB.alloc hB.size (.cells #[.int .i64 (pcg L k).f0, .int .i64 (pcg L k).f1, .int .i64 (pcg L k).a0, .int .i64 (pcg L k).a1, .int .i64 (pcg L k).b0, .int .i64 (pcg L k).b1, .int .i64 (pcg L k).c0, .int .i64 (pcg L k).c1] 69)).trans (hb1.mono (by simp; omega))
    go_roundw
    case rel => exact ⟨k + 1, by omega, by go_num, by rw [HN.out], hB1, World.block_lt_of_cell? _ _ e0, e0, e1⟩
    case measure => simp [intOf]; omega
  ·obtain rfl : k = L.length := by omega
   go_wp2_with fail
   go_ret
   exact ⟨rfl, hB⟩
end Go.Proofs.Ytbgkgahmicepdaa
