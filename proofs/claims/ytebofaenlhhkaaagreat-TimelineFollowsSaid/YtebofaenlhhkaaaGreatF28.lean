/-
  THE WALKS of the sums of package quadratic: value, slope, result.
-/
import Derived.Test.YtebofaenlhhkaaaGreatF27
namespace Go.Proofs.YtebofaenlhhkaaaGreat
set_option maxRecDepth 100000
set_option maxHeartbeats 80000000
set_option linter.unusedSimpArgs false
section
open Go.RowKit Go.Shelf
theorem qvalue_any (b : Nat) (e : Int) (F A B C u : Int × Int) (vA : vF A = true) (vB : vF B = true) (vC : vF C = true) (vu : vF u = true) (w : World) (hc : w.cell? ⟨b, 0, none⟩ = some (.int .i64 e)) (hf : w.frozen? ⟨b, 0, none⟩ = false) :
  Calls Tryz.prog 63 #[.pointer (some ⟨b, 0, none⟩), .agg #[.int .i64 F.1, .int .i64 F.2, .int .i64 A.1, .int .i64 A.2, .int .i64 B.1, .int .i64 B.2, .int .i64 C.1, .int .i64 C.2], .agg #[.int .i64 u.1, .int .i64 u.2]] w fun z w' => z = .returned (.agg #[.int .i64 (kVal e A B C u).1.1, .int .i64 (kVal e A B C u).1.2]) ∧ Sm b (kVal e A B C u).2 w w' := by
 have hb : b < w.heap.size := wl hc;obtain ⟨K1, hK1⟩ := nm (kMul e C u);have vK1 : vF K1.1 = true := by rw [← hK1]; exact kMul_valid vC vu
 have HK1 : Hid (∀ w : World, w.cell? ⟨b, 0, none⟩ = some (.int .i64 e) → w.frozen? ⟨b, 0, none⟩ = false → Calls Tryz.prog 104 #[.pointer (some ⟨b, 0, none⟩), .agg #[.int .i64 C.1, .int .i64 C.2], .agg #[.int .i64 u.1, .int .i64 u.2]] w fun z w' => z = .returned (.agg #[.int .i64 K1.1.1, .int .i64 K1.1.2]) ∧ Sm b K1.2 w w') := lh fun w h0 h1 => by
  have := kmul_any b e C u vC vu w h0 h1
  rwa [hK1] at this
 obtain ⟨K2, hK2⟩ := nm (kAdd K1.2 B K1.1);have vK2 : vF K2.1 = true := by rw [← hK2]; exact kAdd_valid vB vK1
 have HK2 : Hid (∀ w : World, w.cell? ⟨b, 0, none⟩ = some (.int .i64 K1.2) → w.frozen? ⟨b, 0, none⟩ = false → Calls Tryz.prog 103 #[.pointer (some ⟨b, 0, none⟩), .agg #[.int .i64 B.1, .int .i64 B.2], .agg #[.int .i64 K1.1.1, .int .i64 K1.1.2]] w fun z w' => z = .returned (.agg #[.int .i64 K2.1.1, .int .i64 K2.1.2]) ∧ Sm b K2.2 w w') := lh fun w h0 h1 => by
  have := kadd_any b K1.2 B K1.1 vB vK1 w h0 h1
  rwa [hK2] at this
 obtain ⟨K3, hK3⟩ := nm (kMul K2.2 K2.1 u);have vK3 : vF K3.1 = true := by rw [← hK3]; exact kMul_valid vK2 vu
 have HK3 : Hid (∀ w : World, w.cell? ⟨b, 0, none⟩ = some (.int .i64 K2.2) → w.frozen? ⟨b, 0, none⟩ = false → Calls Tryz.prog 104 #[.pointer (some ⟨b, 0, none⟩), .agg #[.int .i64 K2.1.1, .int .i64 K2.1.2], .agg #[.int .i64 u.1, .int .i64 u.2]] w fun z w' => z = .returned (.agg #[.int .i64 K3.1.1, .int .i64 K3.1.2]) ∧ Sm b K3.2 w w') := lh fun w h0 h1 => by
  have := kmul_any b K2.2 K2.1 u vK2 vu w h0 h1
  rwa [hK3] at this
 obtain ⟨K4, hK4⟩ := nm (kAdd K3.2 A K3.1);have vK4 : vF K4.1 = true := by rw [← hK4]; exact kAdd_valid vA vK3
 have HK4 : Hid (∀ w : World, w.cell? ⟨b, 0, none⟩ = some (.int .i64 K3.2) → w.frozen? ⟨b, 0, none⟩ = false → Calls Tryz.prog 103 #[.pointer (some ⟨b, 0, none⟩), .agg #[.int .i64 A.1, .int .i64 A.2], .agg #[.int .i64 K3.1.1, .int .i64 K3.1.2]] w fun z w' => z = .returned (.agg #[.int .i64 K4.1.1, .int .i64 K4.1.2]) ∧ Sm b K4.2 w w') := lh fun w h0 h1 => by
  have := kadd_any b K3.2 A K3.1 vA vK3 w h0 h1
  rwa [hK4] at this
 have HR : Hid (kVal e A B C u = K4) := lh (by
  unfold kVal;simp only [hK1, hK2, hK3, hK4])
 rw [HR.out];clear hK1 vK1 hK2 vK2 hK3 vK3 hK4 vK4 vB vC vu vA
 go_enter Tryz.func63, Tryz.ntmps63
 go_upto_region 1 with (fail)
 have hW0 : Below w.heap.size w (((w.alloc (.cells #[.int .i64 F.1, .int .i64 F.2, .int .i64 A.1, .int .i64 A.2, .int .i64 B.1, .int .i64 B.2, .int .i64 C.1, .int .i64 C.2] 122)).alloc (.cells #[.int .i64 u.1, .int .i64 u.2] 49)).alloc (.cells #[.int .i64 0, .int .i64 0] 49)) := ((below_new _ _).alloc (by simp) _).alloc (by simp <;> omega) _;have hz : w.heap.size + 1 + 1 < (((w.alloc (.cells #[.int .i64 F.1, .int .i64 F.2, .int .i64 A.1, .int .i64 A.2, .int .i64 B.1, .int .i64 B.2, .int .i64 C.1, .int .i64 C.2] 122)).alloc (.cells #[.int .i64 u.1, .int .i64 u.2] 49)).alloc (.cells #[.int .i64 0, .int .i64 0] 49)).heap.size := by simp
 have k0 : (((w.alloc (.cells #[.int .i64 F.1, .int .i64 F.2, .int .i64 A.1, .int .i64 A.2, .int .i64 B.1, .int .i64 B.2, .int .i64 C.1, .int .i64 C.2] 122)).alloc (.cells #[.int .i64 u.1, .int .i64 u.2] 49)).alloc (.cells #[.int .i64 0, .int .i64 0] 49)).cell? ⟨w.heap.size, 2, none⟩ = some (.int .i64 A.1) := by simp [go_sem, World.cell?_alloc_past]
 have k1 : (((w.alloc (.cells #[.int .i64 F.1, .int .i64 F.2, .int .i64 A.1, .int .i64 A.2, .int .i64 B.1, .int .i64 B.2, .int .i64 C.1, .int .i64 C.2] 122)).alloc (.cells #[.int .i64 u.1, .int .i64 u.2] 49)).alloc (.cells #[.int .i64 0, .int .i64 0] 49)).cell? ⟨w.heap.size, 3, none⟩ = some (.int .i64 A.2) := by simp [go_sem, World.cell?_alloc_past]
 have k2 : (((w.alloc (.cells #[.int .i64 F.1, .int .i64 F.2, .int .i64 A.1, .int .i64 A.2, .int .i64 B.1, .int .i64 B.2, .int .i64 C.1, .int .i64 C.2] 122)).alloc (.cells #[.int .i64 u.1, .int .i64 u.2] 49)).alloc (.cells #[.int .i64 0, .int .i64 0] 49)).cell? ⟨w.heap.size, 4, none⟩ = some (.int .i64 B.1) := by simp [go_sem, World.cell?_alloc_past]
 have k3 : (((w.alloc (.cells #[.int .i64 F.1, .int .i64 F.2, .int .i64 A.1, .int .i64 A.2, .int .i64 B.1, .int .i64 B.2, .int .i64 C.1, .int .i64 C.2] 122)).alloc (.cells #[.int .i64 u.1, .int .i64 u.2] 49)).alloc (.cells #[.int .i64 0, .int .i64 0] 49)).cell? ⟨w.heap.size, 5, none⟩ = some (.int .i64 B.2) := by simp [go_sem, World.cell?_alloc_past]
 have k4 : (((w.alloc (.cells #[.int .i64 F.1, .int .i64 F.2, .int .i64 A.1, .int .i64 A.2, .int .i64 B.1, .int .i64 B.2, .int .i64 C.1, .int .i64 C.2] 122)).alloc (.cells #[.int .i64 u.1, .int .i64 u.2] 49)).alloc (.cells #[.int .i64 0, .int .i64 0] 49)).cell? ⟨w.heap.size, 6, none⟩ = some (.int .i64 C.1) := by simp [go_sem, World.cell?_alloc_past]
 have k5 : (((w.alloc (.cells #[.int .i64 F.1, .int .i64 F.2, .int .i64 A.1, .int .i64 A.2, .int .i64 B.1, .int .i64 B.2, .int .i64 C.1, .int .i64 C.2] 122)).alloc (.cells #[.int .i64 u.1, .int .i64 u.2] 49)).alloc (.cells #[.int .i64 0, .int .i64 0] 49)).cell? ⟨w.heap.size, 7, none⟩ = some (.int .i64 C.2) := by simp [go_sem, World.cell?_alloc_past]
 have k6 : (((w.alloc (.cells #[.int .i64 F.1, .int .i64 F.2, .int .i64 A.1, .int .i64 A.2, .int .i64 B.1, .int .i64 B.2, .int .i64 C.1, .int .i64 C.2] 122)).alloc (.cells #[.int .i64 u.1, .int .i64 u.2] 49)).alloc (.cells #[.int .i64 0, .int .i64 0] 49)).cell? ⟨w.heap.size + 1, 0, none⟩ = some (.int .i64 u.1) := by simp [go_sem]
 have k7 : (((w.alloc (.cells #[.int .i64 F.1, .int .i64 F.2, .int .i64 A.1, .int .i64 A.2, .int .i64 B.1, .int .i64 B.2, .int .i64 C.1, .int .i64 C.2] 122)).alloc (.cells #[.int .i64 u.1, .int .i64 u.2] 49)).alloc (.cells #[.int .i64 0, .int .i64 0] 49)).cell? ⟨w.heap.size + 1, 1, none⟩ = some (.int .i64 u.2) := by simp [go_sem]
 have k8 : (((w.alloc (.cells #[.int .i64 F.1, .int .i64 F.2, .int .i64 A.1, .int .i64 A.2, .int .i64 B.1, .int .i64 B.2, .int .i64 C.1, .int .i64 C.2] 122)).alloc (.cells #[.int .i64 u.1, .int .i64 u.2] 49)).alloc (.cells #[.int .i64 0, .int .i64 0] 49)).cell? ⟨w.heap.size + 1 + 1, 0, none⟩ = some (.int .i64 0) := by simp [go_sem]
 have k9 : (((w.alloc (.cells #[.int .i64 F.1, .int .i64 F.2, .int .i64 A.1, .int .i64 A.2, .int .i64 B.1, .int .i64 B.2, .int .i64 C.1, .int .i64 C.2] 122)).alloc (.cells #[.int .i64 u.1, .int .i64 u.2] 49)).alloc (.cells #[.int .i64 0, .int .i64 0] 49)).cell? ⟨w.heap.size + 1 + 1, 1, none⟩ = some (.int .i64 0) := by simp [go_sem]
 have f0 : (((w.alloc (.cells #[.int .i64 F.1, .int .i64 F.2, .int .i64 A.1, .int .i64 A.2, .int .i64 B.1, .int .i64 B.2, .int .i64 C.1, .int .i64 C.2] 122)).alloc (.cells #[.int .i64 u.1, .int .i64 u.2] 49)).alloc (.cells #[.int .i64 0, .int .i64 0] 49)).frozen? ⟨w.heap.size + 1 + 1, 0, none⟩ = false := by simp [go_sem]
 have f1 : (((w.alloc (.cells #[.int .i64 F.1, .int .i64 F.2, .int .i64 A.1, .int .i64 A.2, .int .i64 B.1, .int .i64 B.2, .int .i64 C.1, .int .i64 C.2] 122)).alloc (.cells #[.int .i64 u.1, .int .i64 u.2] 49)).alloc (.cells #[.int .i64 0, .int .i64 0] 49)).frozen? ⟨w.heap.size + 1 + 1, 1, none⟩ = false := by simp [go_sem]
 have hs0 := Sm.of hW0 hc hf;have hc0 := hs0.cell;have hf0 := hs0.free;generalize (((w.alloc (.cells #[.int .i64 F.1, .int .i64 F.2, .int .i64 A.1, .int .i64 A.2, .int .i64 B.1, .int .i64 B.2, .int .i64 C.1, .int .i64 C.2] 122)).alloc (.cells #[.int .i64 u.1, .int .i64 u.2] 49)).alloc (.cells #[.int .i64 0, .int .i64 0] 49)) = W0 at *
 have HX : Hid (∀ x w', Sm b x W0 w' → w.heap.size ≤ w'.heap.size ∧ w'.cell? ⟨w.heap.size, 2, none⟩ = some (.int .i64 A.1) ∧ w'.cell? ⟨w.heap.size, 3, none⟩ = some (.int .i64 A.2) ∧ w'.cell? ⟨w.heap.size, 4, none⟩ = some (.int .i64 B.1) ∧ w'.cell? ⟨w.heap.size, 5, none⟩ = some (.int .i64 B.2) ∧ w'.cell? ⟨w.heap.size, 6, none⟩ = some (.int .i64 C.1) ∧ w'.cell? ⟨w.heap.size, 7, none⟩ = some (.int .i64 C.2) ∧ w'.cell? ⟨w.heap.size + 1, 0, none⟩ = some (.int .i64 u.1) ∧ w'.cell? ⟨w.heap.size + 1, 1, none⟩ = some (.int .i64 u.2)) := lh fun x w' h =>
  ⟨Nat.le_trans hW0.size h.size, (h.other (p := ⟨w.heap.size, 2, none⟩) (by simp <;> omega) (by simp <;> omega)).trans k0, (h.other (p := ⟨w.heap.size, 3, none⟩) (by simp <;> omega) (by simp <;> omega)).trans k1, (h.other (p := ⟨w.heap.size, 4, none⟩) (by simp <;> omega) (by simp <;> omega)).trans k2, (h.other (p := ⟨w.heap.size, 5, none⟩) (by simp <;> omega) (by simp <;> omega)).trans k3, (h.other (p := ⟨w.heap.size, 6, none⟩) (by simp <;> omega) (by simp <;> omega)).trans k4, (h.other (p := ⟨w.heap.size, 7, none⟩) (by simp <;> omega) (by simp <;> omega)).trans k5, (h.other (p := ⟨w.heap.size + 1, 0, none⟩) (by simp <;> omega) (by simp <;> omega)).trans k6, (h.other (p := ⟨w.heap.size + 1, 1, none⟩) (by simp <;> omega) (by simp <;> omega)).trans k7⟩
 have HY : Hid (∀ x w', Sm b x W0 w' → w'.cell? ⟨w.heap.size + 1 + 1, 0, none⟩ = some (.int .i64 0) ∧ w'.cell? ⟨w.heap.size + 1 + 1, 1, none⟩ = some (.int .i64 0) ∧ w'.frozen? ⟨w.heap.size + 1 + 1, 0, none⟩ = false ∧ w'.frozen? ⟨w.heap.size + 1 + 1, 1, none⟩ = false) := lh fun x w' h =>
  ⟨(h.other (p := ⟨w.heap.size + 1 + 1, 0, none⟩) (by simp <;> omega) (by simp <;> omega)).trans k8, (h.other (p := ⟨w.heap.size + 1 + 1, 1, none⟩) (by simp <;> omega) (by simp <;> omega)).trans k9, (h.otherF (p := ⟨w.heap.size + 1 + 1, 0, none⟩) (by simp <;> omega) (by simp <;> omega)).trans f0, (h.otherF (p := ⟨w.heap.size + 1 + 1, 1, none⟩) (by simp <;> omega) (by simp <;> omega)).trans f1⟩
 have hbz : b < W0.heap.size := by omega
 have HZ : Hid (∀ x w', Sm b x W0 w' → ∀ v0 v1, (fun w' => w.heap.size ≤ w'.heap.size ∧ w'.cell? ⟨w.heap.size, 2, none⟩ = some (.int .i64 A.1) ∧ w'.cell? ⟨w.heap.size, 3, none⟩ = some (.int .i64 A.2) ∧ w'.cell? ⟨w.heap.size, 4, none⟩ = some (.int .i64 B.1) ∧ w'.cell? ⟨w.heap.size, 5, none⟩ = some (.int .i64 B.2) ∧ w'.cell? ⟨w.heap.size, 6, none⟩ = some (.int .i64 C.1) ∧ w'.cell? ⟨w.heap.size, 7, none⟩ = some (.int .i64 C.2) ∧ w'.cell? ⟨w.heap.size + 1, 0, none⟩ = some (.int .i64 u.1) ∧ w'.cell? ⟨w.heap.size + 1, 1, none⟩ = some (.int .i64 u.2)) ((w'.setCell ⟨w.heap.size + 1 + 1, 0, none⟩ v0).setCell ⟨w.heap.size + 1 + 1, 1, none⟩ v1)) := lh fun x w' h v0 v1 => by
  obtain ⟨h0, h1, h2, h3, h4, h5, h6, h7, h8⟩ := HX.out x w' h;refine ⟨by simpa using h0, ?_, ?_, ?_, ?_, ?_, ?_, ?_, ?_⟩
  all_goals (refine (two_other (by omega) _ _ _).trans ?_; assumption)
 have hsd : Sm b e W0 W0.drew := (Sm.refl hc0 hf0).drew;clear hc hf hc0 hf0 hs0 f0 f1 k0 k1 k2 k3 k4 k5 k6 k7 k8 k9;refine wp_region_held_drew (S := (fun w' => w.heap.size ≤ w'.heap.size ∧ w'.cell? ⟨w.heap.size, 2, none⟩ = some (.int .i64 A.1) ∧ w'.cell? ⟨w.heap.size, 3, none⟩ = some (.int .i64 A.2) ∧ w'.cell? ⟨w.heap.size, 4, none⟩ = some (.int .i64 B.1) ∧ w'.cell? ⟨w.heap.size, 5, none⟩ = some (.int .i64 B.2) ∧ w'.cell? ⟨w.heap.size, 6, none⟩ = some (.int .i64 C.1) ∧ w'.cell? ⟨w.heap.size, 7, none⟩ = some (.int .i64 C.2) ∧ w'.cell? ⟨w.heap.size + 1, 0, none⟩ = some (.int .i64 u.1) ∧ w'.cell? ⟨w.heap.size + 1, 1, none⟩ = some (.int .i64 u.2))) (by kernel_rfl) (HX.out _ _ hsd) (fun hHeld => ?_);refine tkB 0 ?_;simp only [Act.put, s_1, s_2, s_3, s_4, s_6];refine tkB 1 ?_;simp only [Act.put, s_1, s_2, s_3, s_4, s_5, s_6];refine tkB 2 ?_;simp only [Act.put, s_1, s_2, s_3, s_4, s_5, s_6];refine tkB 3 ?_;simp only [Act.put, s_1, s_2, s_3, s_4, s_5, s_6];refine tkB 4 ?_;simp only [Act.put, s_1, s_2, s_3, s_4, s_5, s_6];refine tkB 5 ?_;simp only [Act.put, s_1, s_2, s_3, s_4, s_5, s_6];refine tkB 6 ?_;simp only [Act.put, s_1, s_2, s_3, s_4, s_5, s_6];refine tkB 7 ?_;simp only [Act.put, s_1, s_2, s_3, s_4, s_5, s_6];refine tkB 8 ?_;simp only [Act.put, s_1, s_2, s_3, s_4, s_5, s_6];refine tkB 9 ?_;simp only [Act.put, s_1, s_2, s_3, s_4, s_5, s_6];refine tkB 10 ?_;simp only [Act.put, s_1, s_2, s_3, s_4, s_5, s_6];refine tkB 13 ?_;simp only [Act.put, s_1, s_2, s_3, s_4, s_5, s_6];refine r1 11 (fun K hK => ?_)
 try simp only [s_4, s_5, s_6]
 go_simp
 (go_at_call 104; go_split_ands; (with_reducible refine (HK1.out _ hsd.cell hsd.free).mono ?_); rintro z w1 ⟨rfl, ht1⟩; have hs1 := hsd.trans ht1)
 go_wp2_with fail
 refine hK.out _ _ (HX.out _ _ hs1) (fun hHeld => ?_);clear hK K
 try simp only [Act.put, s_1, s_2, s_3, s_4, s_5, s_6]
 refine r1 12 (fun K hK => ?_)
 try simp only [s_4, s_5, s_6]
 go_simp
 (go_at_call 103; go_split_ands; (with_reducible refine (HK2.out _ hs1.cell hs1.free).mono ?_); rintro z w2 ⟨rfl, ht2⟩; have hs2 := hs1.trans ht2)
 go_wp2_with fail
 refine hK.out _ _ (HX.out _ _ hs2) (fun hHeld => ?_);clear hK K
 try simp only [Act.put, s_1, s_2, s_3, s_4, s_5, s_6]
 refine r1 14 (fun K hK => ?_)
 try simp only [s_4, s_5, s_6]
 go_simp
 (go_at_call 104; go_split_ands; (with_reducible refine (HK3.out _ hs2.cell hs2.free).mono ?_); rintro z w3 ⟨rfl, ht3⟩; have hs3 := hs2.trans ht3)
 go_wp2_with fail
 refine hK.out _ _ (HX.out _ _ hs3) (fun hHeld => ?_);clear hK K
 try simp only [Act.put, s_1, s_2, s_3, s_4, s_5, s_6]
 refine r1 15 (fun K hK => ?_)
 try simp only [s_4, s_5, s_6]
 go_simp
 (go_at_call 103; go_split_ands; (with_reducible refine (HK4.out _ hs3.cell hs3.free).mono ?_); rintro z w4 ⟨rfl, ht4⟩; have hs4 := hs3.trans ht4)
 go_wp2_with fail
 refine hK.out _ _ (HX.out _ _ hs4) (fun hHeld => ?_);clear hK K
 try simp only [Act.put, s_1, s_2, s_3, s_4, s_5, s_6]
 refine r1 16 (fun K hK => ?_);go_split_ands;obtain ⟨g0, g1, g2, g3⟩ := HY.out _ _ hs4
 try simp only [s_4, s_5, s_6]
 go_wp2_with fail
 skip
 refine hK.out _ _ (HZ.out _ _ hs4 _ _) (fun hHeld => ?_);clear hK K
 try simp only [Act.put, s_1, s_2, s_3, s_4, s_5, s_6]
 refine wpAnyH_done (by kernel_rfl) ?_ _
 go_wp2_with fail
 have l0 := (two_cells (v0 := .int .i64 K4.1.1) (v1 := .int .i64 K4.1.2) g0 g1).1;have l1 := (two_cells (v0 := .int .i64 K4.1.1) (v1 := .int .i64 K4.1.2) g0 g1).2;refine bodyPost_ret (v := .agg #[.int .i64 K4.1.1, .int .i64 K4.1.2]) (by simp [results, Tryz.results63, go_sem, l0, l1]) rfl ⟨rfl, ?_⟩;exact ((Sm.from hW0 hb hs4).setCell (p := ⟨w.heap.size + 1 + 1, 0, none⟩) (by simp <;> omega) hb _).setCell (p := ⟨w.heap.size + 1 + 1, 1, none⟩) (by simp <;> omega) hb _
theorem qresult_any (b : Nat) (e : Int) (x : Int × Int) (w : World) (hc : w.cell? ⟨b, 0, none⟩ = some (.int .i64 e)) :
  Calls Tryz.prog 70 #[.pointer (some ⟨b, 0, none⟩), .agg #[.int .i64 x.1, .int .i64 x.2]] w fun z w' => z = .returned (.tuple #[.agg #[.int .i64 (if e = 0 then x.1 else 0), .int .i64 (if e = 0 then x.2 else 0)], .int .i64 e]) ∧ Below w.heap.size w w' := by
 have hb : b < w.heap.size := wl hc
 by_cases z : e = 0
 ·rw [if_pos z, if_pos z]
  subst z
  go_enter Tryz.func70, Tryz.ntmps70
  go_wp2_with fail
  refine bodyPost_ret (v := .tuple #[.agg #[.int .i64 x.1, .int .i64 x.2], .int .i64 0]) (by simp [results, Tryz.results70, go_sem]) rfl ⟨rfl, ?_⟩;exact (below_new _ _).alloc (by simp) _
 ·rw [if_neg z, if_neg z]
  have z1 : (e == 0) = false := beq_eq_false_iff_ne.2 z;have z2 : (e != 0) = true := by simpa using z
  clear z
  go_enter Tryz.func70, Tryz.ntmps70
  go_upto_region 2 with (fail)
  go_region
  all_goals go_wp2_with fail
  all_goals refine bodyPost_ret (v := .tuple #[.agg #[.int .i64 0, .int .i64 0], .int .i64 e]) (by simp [results, Tryz.results70, go_sem]) rfl ⟨rfl, ?_⟩
  all_goals exact ((below_new _ _).alloc (by simp) _).drew
structure PcOK (p : Pc) : Prop where
 f : validF p.f0 p.f1 = true
 a : validF p.a0 p.a1 = true
 b : validF p.b0 p.b1 = true
 c : validF p.c0 p.c1 = true
structure CurveOK (L : List Pc) : Prop where
 pos : 1 ≤ L.length
 len : L.length ≤ 200
 val : ∀ i, i < L.length → PcOK (pcg L i)
 asc : ∀ i, i + 1 < L.length → (pcg L i).f0 * (pcg L (i + 1)).f1 < (pcg L (i + 1)).f0 * (pcg L i).f1
theorem cmpP_lt {x y : Int} (h : x < y) : cmpP x y = -1 := by unfold cmpP; rw [if_neg (by omega), if_pos h]
theorem cmpP_le {x y : Int} : cmpP x y ≤ 0 ↔ x ≤ y := by unfold cmpP; split <;> (try split) <;> omega
theorem compare_any (an ad bn bd : Int) (va : validF an ad = true) (vb : validF bn bd = true) (w : World) :
  Calls Tryz.prog 100 #[.agg #[.int .i64 an, .int .i64 ad], .agg #[.int .i64 bn, .int .i64 bd]] w fun e w' => e = .returned (.int .i64 (cmpP (an * bd) (bn * ad))) ∧ Below w.heap.size w w' := by
 have HC := lh (cmp_all an ad bn bd va vb);generalize cmpP (an * bd) (bn * ad) = C at *;clear va vb
 go_enter Tryz.func100, Tryz.ntmps100
 go_wp2_with (go_at_call 109; (with_reducible refine (HC.out _).mono ?_); rintro e w1 ⟨rfl, hb1⟩)
 go_ret;exact ⟨rfl, ((below_new _ _).alloc (by simp) _).trans (hb1.mono (by simp <;> omega))⟩
theorem qvalid_yes (L : List Pc) (ok : CurveOK L) (a : Option Addr) (c : Nat) (w : World) (hL : Pcs w.heap.size w a L) :
  Calls Tryz.prog 60 #[.slice a L.length c] w fun e w' => e = .returned (.bool true) ∧ Below w.heap.size w w' := by
 have hl1 := ok.pos;have hl2 := ok.len;have HOK := lh ok;have g1 : decide ((L.length : Int) < 1) = false := dF (by omega);have g2 : decide (200 < (L.length : Int)) = false := dF (by omega);have g3 : decide (200 < L.length) = false := dF (by omega);obtain ⟨b, off, rfl, hb, hc⟩ := hL (by omega);have HC := lh hc;clear ok hc hL
 go_enter Tryz.func60, Tryz.ntmps60
 go_wp2_with fail
 clear g1 g2 g3
 go_loopw [15] (fun i wr => ∃ k : Nat, k ≤ L.length ∧ i = .int .i64 k ∧ Below w.heap.size w wr) (fun i _ => L.length - (intOf i).toNat)
 case atStart => exact ⟨0, Nat.zero_le _, rfl, br⟩
 case round =>
  obtain ⟨k, hk, rfl, hB⟩ := hrel;have hbs := hB.size
  by_cases hlt : k < L.length
  ·obtain ⟨c0, c1, c2, c3, c4, c5, c6, c7⟩ := HC.out k hlt
   have d0 := (hB.cell (p := ⟨b, off + k * 8, none⟩) hb).trans c0;have d1 := (hB.cell (p := ⟨b, off + k * 8 + 1, none⟩) hb).trans c1;have d2 := (hB.cell (p := ⟨b, off + k * 8 + 2, none⟩) hb).trans c2;have d3 := (hB.cell (p := ⟨b, off + k * 8 + 3, none⟩) hb).trans c3;have d4 := (hB.cell (p := ⟨b, off + k * 8 + 4, none⟩) hb).trans c4;have d5 := (hB.cell (p := ⟨b, off + k * 8 + 5, none⟩) hb).trans c5;have d6 := (hB.cell (p := ⟨b, off + k * 8 + 6, none⟩) hb).trans c6;have d7 := (hB.cell (p := ⟨b, off + k * 8 + 7, none⟩) hb).trans c7;have hok := HOK.out.val k hlt;have HVf := lh hok.f;have HVa := lh hok.a;have HVb := lh hok.b;have HVc := lh hok.c;have i0 : 0 ≤ (k : Int) := by omega
   have i1 : (k : Int) < (L.length : Int) := by omega
   have s1 : IntKind.i64.wrap ((k : Int) + 1) = (k : Int) + 1 := IntWalk.i64_in _ (by omega);clear c0 c1 c2 c3 c4 c5 c6 c7 hok;have hn0 : wr.heap.size < (wr.alloc (.cells #[.int .i64 (pcg L k).f0, .int .i64 (pcg L k).f1, .int .i64 (pcg L k).a0, .int .i64 (pcg L k).a1, .int .i64 (pcg L k).b0, .int .i64 (pcg L k).b1, .int .i64 (pcg L k).c0, .int .i64 (pcg L k).c1] 122)).heap.size := by simp
   have z0_0 : (wr.alloc (.cells #[.int .i64 (pcg L k).f0, .int .i64 (pcg L k).f1, .int .i64 (pcg L k).a0, .int .i64 (pcg L k).a1, .int .i64 (pcg L k).b0, .int .i64 (pcg L k).b1, .int .i64 (pcg L k).c0, .int .i64 (pcg L k).c1] 122)).cell? ⟨wr.heap.size, 0, none⟩ = some (.int .i64 (pcg L k).f0) := by simp
   have z0_1 : (wr.alloc (.cells #[.int .i64 (pcg L k).f0, .int .i64 (pcg L k).f1, .int .i64 (pcg L k).a0, .int .i64 (pcg L k).a1, .int .i64 (pcg L k).b0, .int .i64 (pcg L k).b1, .int .i64 (pcg L k).c0, .int .i64 (pcg L k).c1] 122)).cell? ⟨wr.heap.size, 1, none⟩ = some (.int .i64 (pcg L k).f1) := by simp
   have z0_2 : (wr.alloc (.cells #[.int .i64 (pcg L k).f0, .int .i64 (pcg L k).f1, .int .i64 (pcg L k).a0, .int .i64 (pcg L k).a1, .int .i64 (pcg L k).b0, .int .i64 (pcg L k).b1, .int .i64 (pcg L k).c0, .int .i64 (pcg L k).c1] 122)).cell? ⟨wr.heap.size, 2, none⟩ = some (.int .i64 (pcg L k).a0) := by simp
   have z0_3 : (wr.alloc (.cells #[.int .i64 (pcg L k).f0, .int .i64 (pcg L k).f1, .int .i64 (pcg L k).a0, .int .i64 (pcg L k).a1, .int .i64 (pcg L k).b0, .int .i64 (pcg L k).b1, .int .i64 (pcg L k).c0, .int .i64 (pcg L k).c1] 122)).cell? ⟨wr.heap.size, 3, none⟩ = some (.int .i64 (pcg L k).a1) := by simp
   have z0_4 : (wr.alloc (.cells #[.int .i64 (pcg L k).f0, .int .i64 (pcg L k).f1, .int .i64 (pcg L k).a0, .int .i64 (pcg L k).a1, .int .i64 (pcg L k).b0, .int .i64 (pcg L k).b1, .int .i64 (pcg L k).c0, .int .i64 (pcg L k).c1] 122)).cell? ⟨wr.heap.size, 4, none⟩ = some (.int .i64 (pcg L k).b0) := by simp
   have z0_5 : (wr.alloc (.cells #[.int .i64 (pcg L k).f0, .int .i64 (pcg L k).f1, .int .i64 (pcg L k).a0, .int .i64 (pcg L k).a1, .int .i64 (pcg L k).b0, .int .i64 (pcg L k).b1, .int .i64 (pcg L k).c0, .int .i64 (pcg L k).c1] 122)).cell? ⟨wr.heap.size, 5, none⟩ = some (.int .i64 (pcg L k).b1) := by simp
   have z0_6 : (wr.alloc (.cells #[.int .i64 (pcg L k).f0, .int .i64 (pcg L k).f1, .int .i64 (pcg L k).a0, .int .i64 (pcg L k).a1, .int .i64 (pcg L k).b0, .int .i64 (pcg L k).b1, .int .i64 (pcg L k).c0, .int .i64 (pcg L k).c1] 122)).cell? ⟨wr.heap.size, 6, none⟩ = some (.int .i64 (pcg L k).c0) := by simp
   have z0_7 : (wr.alloc (.cells #[.int .i64 (pcg L k).f0, .int .i64 (pcg L k).f1, .int .i64 (pcg L k).a0, .int .i64 (pcg L k).a1, .int .i64 (pcg L k).b0, .int .i64 (pcg L k).b1, .int .i64 (pcg L k).c0, .int .i64 (pcg L k).c1] 122)).cell? ⟨wr.heap.size, 7, none⟩ = some (.int .i64 (pcg L k).c1) := by simp
   go_upto_region 8 with (first
    | (go_at_call 68; (with_reducible refine (valid_any (pcg L k).f0 (pcg L k).f1 _).mono ?_); rintro e w1 ⟨rfl, hv1⟩; rw [HVf.out]; have z1_0 : w1.cell? ⟨wr.heap.size, 0, none⟩ = some (.int .i64 (pcg L k).f0) := (hv1.cell (p := ⟨wr.heap.size, 0, none⟩) hn0).trans z0_0; have z1_1 : w1.cell? ⟨wr.heap.size, 1, none⟩ = some (.int .i64 (pcg L k).f1) := (hv1.cell (p := ⟨wr.heap.size, 1, none⟩) hn0).trans z0_1; have z1_2 : w1.cell? ⟨wr.heap.size, 2, none⟩ = some (.int .i64 (pcg L k).a0) := (hv1.cell (p := ⟨wr.heap.size, 2, none⟩) hn0).trans z0_2; have z1_3 : w1.cell? ⟨wr.heap.size, 3, none⟩ = some (.int .i64 (pcg L k).a1) := (hv1.cell (p := ⟨wr.heap.size, 3, none⟩) hn0).trans z0_3; have z1_4 : w1.cell? ⟨wr.heap.size, 4, none⟩ = some (.int .i64 (pcg L k).b0) := (hv1.cell (p := ⟨wr.heap.size, 4, none⟩) hn0).trans z0_4; have z1_5 : w1.cell? ⟨wr.heap.size, 5, none⟩ = some (.int .i64 (pcg L k).b1) := (hv1.cell (p := ⟨wr.heap.size, 5, none⟩) hn0).trans z0_5; have z1_6 : w1.cell? ⟨wr.heap.size, 6, none⟩ = some (.int .i64 (pcg L k).c0) := (hv1.cell (p := ⟨wr.heap.size, 6, none⟩) hn0).trans z0_6; have z1_7 : w1.cell? ⟨wr.heap.size, 7, none⟩ = some (.int .i64 (pcg L k).c1) := (hv1.cell (p := ⟨wr.heap.size, 7, none⟩) hn0).trans z0_7; have hn1 : wr.heap.size < w1.heap.size := wl z1_0)
    | (go_at_call 68; (with_reducible refine (valid_any (pcg L k).a0 (pcg L k).a1 _).mono ?_); rintro e w2 ⟨rfl, hv2⟩; rw [HVa.out]; have z2_0 : w2.cell? ⟨wr.heap.size, 0, none⟩ = some (.int .i64 (pcg L k).f0) := (hv2.cell (p := ⟨wr.heap.size, 0, none⟩) hn1).trans z1_0; have z2_1 : w2.cell? ⟨wr.heap.size, 1, none⟩ = some (.int .i64 (pcg L k).f1) := (hv2.cell (p := ⟨wr.heap.size, 1, none⟩) hn1).trans z1_1; have z2_2 : w2.cell? ⟨wr.heap.size, 2, none⟩ = some (.int .i64 (pcg L k).a0) := (hv2.cell (p := ⟨wr.heap.size, 2, none⟩) hn1).trans z1_2; have z2_3 : w2.cell? ⟨wr.heap.size, 3, none⟩ = some (.int .i64 (pcg L k).a1) := (hv2.cell (p := ⟨wr.heap.size, 3, none⟩) hn1).trans z1_3; have z2_4 : w2.cell? ⟨wr.heap.size, 4, none⟩ = some (.int .i64 (pcg L k).b0) := (hv2.cell (p := ⟨wr.heap.size, 4, none⟩) hn1).trans z1_4; have z2_5 : w2.cell? ⟨wr.heap.size, 5, none⟩ = some (.int .i64 (pcg L k).b1) := (hv2.cell (p := ⟨wr.heap.size, 5, none⟩) hn1).trans z1_5; have z2_6 : w2.cell? ⟨wr.heap.size, 6, none⟩ = some (.int .i64 (pcg L k).c0) := (hv2.cell (p := ⟨wr.heap.size, 6, none⟩) hn1).trans z1_6; have z2_7 : w2.cell? ⟨wr.heap.size, 7, none⟩ = some (.int .i64 (pcg L k).c1) := (hv2.cell (p := ⟨wr.heap.size, 7, none⟩) hn1).trans z1_7; have hn2 : wr.heap.size < w2.heap.size := wl z2_0)
    | (go_at_call 68; (with_reducible refine (valid_any (pcg L k).b0 (pcg L k).b1 _).mono ?_); rintro e w3 ⟨rfl, hv3⟩; rw [HVb.out]; have z3_0 : w3.cell? ⟨wr.heap.size, 0, none⟩ = some (.int .i64 (pcg L k).f0) := (hv3.cell (p := ⟨wr.heap.size, 0, none⟩) hn2).trans z2_0; have z3_1 : w3.cell? ⟨wr.heap.size, 1, none⟩ = some (.int .i64 (pcg L k).f1) := (hv3.cell (p := ⟨wr.heap.size, 1, none⟩) hn2).trans z2_1; have z3_2 : w3.cell? ⟨wr.heap.size, 2, none⟩ = some (.int .i64 (pcg L k).a0) := (hv3.cell (p := ⟨wr.heap.size, 2, none⟩) hn2).trans z2_2; have z3_3 : w3.cell? ⟨wr.heap.size, 3, none⟩ = some (.int .i64 (pcg L k).a1) := (hv3.cell (p := ⟨wr.heap.size, 3, none⟩) hn2).trans z2_3; have z3_4 : w3.cell? ⟨wr.heap.size, 4, none⟩ = some (.int .i64 (pcg L k).b0) := (hv3.cell (p := ⟨wr.heap.size, 4, none⟩) hn2).trans z2_4; have z3_5 : w3.cell? ⟨wr.heap.size, 5, none⟩ = some (.int .i64 (pcg L k).b1) := (hv3.cell (p := ⟨wr.heap.size, 5, none⟩) hn2).trans z2_5; have z3_6 : w3.cell? ⟨wr.heap.size, 6, none⟩ = some (.int .i64 (pcg L k).c0) := (hv3.cell (p := ⟨wr.heap.size, 6, none⟩) hn2).trans z2_6; have z3_7 : w3.cell? ⟨wr.heap.size, 7, none⟩ = some (.int .i64 (pcg L k).c1) := (hv3.cell (p := ⟨wr.heap.size, 7, none⟩) hn2).trans z2_7; have hn3 : wr.heap.size < w3.heap.size := wl z3_0)
    | (go_at_call 68; (with_reducible refine (valid_any (pcg L k).c0 (pcg L k).c1 _).mono ?_); rintro e w4 ⟨rfl, hv4⟩; rw [HVc.out]; have z4_0 : w4.cell? ⟨wr.heap.size, 0, none⟩ = some (.int .i64 (pcg L k).f0) := (hv4.cell (p := ⟨wr.heap.size, 0, none⟩) hn3).trans z3_0; have z4_1 : w4.cell? ⟨wr.heap.size, 1, none⟩ = some (.int .i64 (pcg L k).f1) := (hv4.cell (p := ⟨wr.heap.size, 1, none⟩) hn3).trans z3_1; have z4_2 : w4.cell? ⟨wr.heap.size, 2, none⟩ = some (.int .i64 (pcg L k).a0) := (hv4.cell (p := ⟨wr.heap.size, 2, none⟩) hn3).trans z3_2; have z4_3 : w4.cell? ⟨wr.heap.size, 3, none⟩ = some (.int .i64 (pcg L k).a1) := (hv4.cell (p := ⟨wr.heap.size, 3, none⟩) hn3).trans z3_3; have z4_4 : w4.cell? ⟨wr.heap.size, 4, none⟩ = some (.int .i64 (pcg L k).b0) := (hv4.cell (p := ⟨wr.heap.size, 4, none⟩) hn3).trans z3_4; have z4_5 : w4.cell? ⟨wr.heap.size, 5, none⟩ = some (.int .i64 (pcg L k).b1) := (hv4.cell (p := ⟨wr.heap.size, 5, none⟩) hn3).trans z3_5; have z4_6 : w4.cell? ⟨wr.heap.size, 6, none⟩ = some (.int .i64 (pcg L k).c0) := (hv4.cell (p := ⟨wr.heap.size, 6, none⟩) hn3).trans z3_6; have z4_7 : w4.cell? ⟨wr.heap.size, 7, none⟩ = some (.int .i64 (pcg L k).c1) := (hv4.cell (p := ⟨wr.heap.size, 7, none⟩) hn3).trans z3_7; have hn4 : wr.heap.size < w4.heap.size := wl z4_0))
   have hB4 : Below w.heap.size w w4 := ((((hB.alloc hbs _).trans (hv1.mono (by simp; omega))).trans (hv2.mono (by have := hv1.size; simp at this; omega))).trans (hv3.mono (by omega))).trans (hv4.mono (by omega));have hw4 : Below wr.heap.size wr w4 := ((((below_new wr _).trans (hv1.mono (by simp))).trans (hv2.mono (by omega))).trans (hv3.mono (by omega))).trans (hv4.mono (by omega));clear hv1 hv2 hv3 hv4 hn0 hn1 hn2 hn3 z0_0 z0_1 z0_2 z0_3 z0_4 z0_5 z0_6 z0_7 z1_0 z1_1 z1_2 z1_3 z1_4 z1_5 z1_6 z1_7 z2_0 z2_1 z2_2 z2_3 z2_4 z2_5 z2_6 z2_7 z3_0 z3_1 z3_2 z3_3 z3_4 z3_5 z3_6 z3_7 d0 d1 d2 d3 d4 d5 d6 d7 z4_2 z4_3 z4_4 z4_5 z4_6 z4_7;have hbx := hB4.size;rcases (show k = 0 ∨ ∃ m, k = m + 1 by cases k with | zero => exact .inl rfl | succ m => exact .inr ⟨m, rfl⟩) with rfl | ⟨m, rfl⟩
   ·go_quiet (fail)
    go_wp2_with fail
    go_roundw
    case rel => exact ⟨1, by omega, by go_num, by first | exact below_drewN hB4 _ | exact hB4.drew⟩
    case measure => simp [intOf]; omega
   ·obtain ⟨c0, c1, c2, c3, c4, c5, c6, c7⟩ := HC.out m (by omega)
    have q0 := (hB4.cell (p := ⟨b, off + m * 8, none⟩) hb).trans c0;have q1 := (hB4.cell (p := ⟨b, off + m * 8 + 1, none⟩) hb).trans c1;have HV1 := lh (HOK.out.val m (by omega)).f;have HA := lh (cmpP_lt (HOK.out.asc m hlt));have j0 : IntKind.i64.wrap (((m + 1 : Nat) : Int) - 1) = (m : Int) := (IntWalk.i64_in _ (by omega)).trans (by omega);have j1 : IntKind.i64.wrap ((m : Int) + 1 - 1) = (m : Int) := (IntWalk.i64_in _ (by omega)).trans (by omega);have j2 : IntKind.i64.wrap (m : Int) = (m : Int) := IntWalk.i64_in _ (by omega);have j3 : (m : Int) < (L.length : Int) := by omega
    have j4 : decide ((0 : Int) < ((m + 1 : Nat) : Int)) = true := dT (by omega);have j5 : decide ((0 : Int) < (m : Int) + 1) = true := dT (by omega);have j6 : (0 : Int) ≤ (m : Int) := by omega
    have j7 : m < L.length := by omega
    clear c0 c1 c2 c3 c4 c5 c6 c7;have hn4' := hn4
    have HSX : Hid (∀ w', Below w4.heap.size w4 w' → Below w4.heap.size w4 w' ∧ w'.cell? ⟨b, off + m * 8, none⟩ = some (.int .i64 (pcg L m).f0) ∧ w'.cell? ⟨b, off + m * 8 + 1, none⟩ = some (.int .i64 (pcg L m).f1) ∧ w'.cell? ⟨wr.heap.size, 0, none⟩ = some (.int .i64 (pcg L (m + 1)).f0) ∧ w'.cell? ⟨wr.heap.size, 1, none⟩ = some (.int .i64 (pcg L (m + 1)).f1)) := lh fun w' h =>
     ⟨h, (h.cell (p := ⟨b, off + m * 8, none⟩) (by simp; omega)).trans q0, (h.cell (p := ⟨b, off + m * 8 + 1, none⟩) (by simp; omega)).trans q1, (h.cell (p := ⟨wr.heap.size, 0, none⟩) hn4).trans z4_0, (h.cell (p := ⟨wr.heap.size, 1, none⟩) hn4).trans z4_1⟩
    clear q0 q1 z4_0 z4_1;refine wp_region_held_drew (S := (fun w' => Below w4.heap.size w4 w' ∧ w'.cell? ⟨b, off + m * 8, none⟩ = some (.int .i64 (pcg L m).f0) ∧ w'.cell? ⟨b, off + m * 8 + 1, none⟩ = some (.int .i64 (pcg L m).f1) ∧ w'.cell? ⟨wr.heap.size, 0, none⟩ = some (.int .i64 (pcg L (m + 1)).f0) ∧ w'.cell? ⟨wr.heap.size, 1, none⟩ = some (.int .i64 (pcg L (m + 1)).f1))) (by kernel_rfl) (HSX.out _ (br).drew) (fun hHeld => ?_);refine tkB 0 ?_;simp only [Act.put, s_1, s_2, s_3, s_4, s_6];refine tkB 1 ?_;simp only [Act.put, s_1, s_2, s_3, s_4, s_5, s_6];refine tkB 2 ?_;simp only [Act.put, s_1, s_2, s_3, s_4, s_5, s_6];refine tkB 3 ?_;simp only [Act.put, s_1, s_2, s_3, s_4, s_5, s_6];refine tkB 4 ?_;simp only [Act.put, s_1, s_2, s_3, s_4, s_5, s_6];refine tkB 5 ?_;simp only [Act.put, s_1, s_2, s_3, s_4, s_5, s_6];refine tkB 6 ?_;simp only [Act.put, s_1, s_2, s_3, s_4, s_5, s_6];refine tkB 7 ?_;simp only [Act.put, s_1, s_2, s_3, s_4, s_5, s_6];refine tkB 8 ?_;simp only [Act.put, s_1, s_2, s_3, s_4, s_5, s_6];refine tkB 9 ?_;simp only [Act.put, s_1, s_2, s_3, s_4, s_5, s_6];refine tkB 10 ?_;simp only [Act.put, s_1, s_2, s_3, s_4, s_5, s_6];refine r1 11 (fun K hK => ?_)
    try simp only [s_4, s_5, s_6]
    go_simp
    (go_at_call 100; go_split_ands; (with_reducible refine (compare_any (pcg L m).f0 (pcg L m).f1 (pcg L (m + 1)).f0 (pcg L (m + 1)).f1 HV1.out HVf.out _).mono ?_); rintro e w5 ⟨rfl, hb5⟩; rw [HA.out]; have hb6 : Below w4.heap.size w4 w5 := ((Below.refl w4.heap.size w4).drew).trans hb5)
    go_wp2_with fail
    refine hK.out _ _ (HSX.out _ hb6) (fun hHeld => ?_);clear hK K
    try simp only [Act.put, s_1, s_2, s_3, s_4, s_5, s_6]
    refine tkB 12 ?_;simp only [Act.put, s_1, s_2, s_3, s_4, s_5, s_6];refine tkB 13 ?_;simp only [Act.put, s_1, s_2, s_3, s_4, s_5, s_6];refine wpAnyH_done (by kernel_rfl) ?_ _
    go_wp2_with fail
    go_roundw
    case rel => exact ⟨m + 2, by omega, by go_num, hB4.trans (hb6.mono hB4.size)⟩
    case measure => simp [intOf]; omega
  ·obtain rfl : k = L.length := by omega
   go_wp2_with fail
   go_ret;exact ⟨rfl, hB⟩
def pieceN (L : List Pc) (t : Int × Int) : Nat → Int
 | 0 => -1
 | k + 1 => if (pcg L k).f0 * t.2 ≤ t.1 * (pcg L k).f1 then (k : Int) else pieceN L t k
theorem piece_any (L : List Pc) (ok : CurveOK L) (t : Int × Int) (vt : vF t = true) (a : Option Addr) (c : Nat) (w : World) (hL : Pcs w.heap.size w a L) :
  Calls Tryz.prog 69 #[.slice a L.length c, .agg #[.int .i64 t.1, .int .i64 t.2]] w fun e w' => e = .returned (.int .i64 (pieceN L t L.length)) ∧ Below w.heap.size w w' := by
 have hl2 := ok.len;have HOK := lh ok;obtain ⟨b, off, rfl, hb, hc⟩ := hL (by have := ok.pos; omega);have HC := lh hc;have HT : Hid (validF t.1 t.2 = true) := lh vt;clear ok hc hL vt
 go_enter Tryz.func69, Tryz.ntmps69
 go_wp2_with fail
 go_loopw [5, 10] (fun p i wr => ∃ k : Nat, k ≤ L.length ∧ i = .int .i64 k ∧ p = .int .i64 (pieceN L t k) ∧ Below w.heap.size w wr ∧ w.heap.size < wr.heap.size ∧ wr.cell? ⟨w.heap.size, 0, none⟩ = some (.int .i64 t.1) ∧ wr.cell? ⟨w.heap.size, 1, none⟩ = some (.int .i64 t.2)) (fun _ i _ => L.length - (intOf i).toNat)
 case atStart => exact ⟨0, Nat.zero_le _, rfl, rfl, below_new _ _, by simp, by simp, by simp⟩
 case round =>
  obtain ⟨k, hk, rfl, rfl, hB, hbs, t0, t1⟩ := hrel
  by_cases hlt : k < L.length
  ·obtain ⟨c0, c1, c2, c3, c4, c5, c6, c7⟩ := HC.out k hlt
   have d0 := (hB.cell (p := ⟨b, off + k * 8, none⟩) hb).trans c0;have d1 := (hB.cell (p := ⟨b, off + k * 8 + 1, none⟩) hb).trans c1;have d2 := (hB.cell (p := ⟨b, off + k * 8 + 2, none⟩) hb).trans c2;have d3 := (hB.cell (p := ⟨b, off + k * 8 + 3, none⟩) hb).trans c3;have d4 := (hB.cell (p := ⟨b, off + k * 8 + 4, none⟩) hb).trans c4;have d5 := (hB.cell (p := ⟨b, off + k * 8 + 5, none⟩) hb).trans c5;have d6 := (hB.cell (p := ⟨b, off + k * 8 + 6, none⟩) hb).trans c6;have d7 := (hB.cell (p := ⟨b, off + k * 8 + 7, none⟩) hb).trans c7;have HVf := lh (HOK.out.val k hlt).f;have i0 : 0 ≤ (k : Int) := by omega
   have i1 : (k : Int) < (L.length : Int) := by omega
   have s1 : IntKind.i64.wrap ((k : Int) + 1) = (k : Int) + 1 := IntWalk.i64_in _ (by omega);obtain ⟨P, hP⟩ := nm (pieceN L t k);rw [hP];obtain ⟨C, hC⟩ := nm (cmpP ((pcg L k).f0 * t.2) (t.1 * (pcg L k).f1));have HCC := lh hC;have hle : C ≤ 0 ↔ (pcg L k).f0 * t.2 ≤ t.1 * (pcg L k).f1 := by rw [← hC]; exact cmpP_le
   have HN : Hid (pieceN L t (k + 1) = if C ≤ 0 then (k : Int) else P) := lh (by
    rw [pieceN, hP]
    by_cases h : C ≤ 0
    ·rw [if_pos h, if_pos (hle.1 h)]
    ·rw [if_neg h, if_neg (fun x => h (hle.2 x))])
   clear c0 c1 c2 c3 c4 c5 c6 c7 hC hle hP
   by_cases h : C ≤ 0
   ·have g : decide (C ≤ 0) = true := decide_eq_true h
    rw [if_pos h] at HN;clear h
    go_wp2_with (go_at_call 100; (with_reducible refine (compare_any (pcg L k).f0 (pcg L k).f1 t.1 t.2 HVf.out HT.out _).mono ?_); rw [HCC.out]; rintro e w1 ⟨rfl, hb1⟩)
    have e0 := (hb1.cell (p := ⟨w.heap.size, 0, none⟩) (by simp <;> omega)).trans ((World.cell?_alloc_lt _ _ _ hbs).trans t0);have e1 := (hb1.cell (p := ⟨w.heap.size, 1, none⟩) (by simp <;> omega)).trans ((World.cell?_alloc_lt _ _ _ hbs).trans t1);have hB1 := (hB.alloc hB.size (.cells #[.int .i64 (pcg L k).f0, .int .i64 (pcg L k).f1, .int .i64 (pcg L k).a0, .int .i64 (pcg L k).a1, .int .i64 (pcg L k).b0, .int .i64 (pcg L k).b1, .int .i64 (pcg L k).c0, .int .i64 (pcg L k).c1] 122)).trans (hb1.mono (by simp; omega));go_roundw
    case rel => exact ⟨k + 1, by omega, by go_num, by rw [HN.out], hB1, wl e0, e0, e1⟩
    case measure => simp [intOf]; omega
   ·have g : decide (C ≤ 0) = false := decide_eq_false h
    rw [if_neg h] at HN;clear h
    go_wp2_with (go_at_call 100; (with_reducible refine (compare_any (pcg L k).f0 (pcg L k).f1 t.1 t.2 HVf.out HT.out _).mono ?_); rw [HCC.out]; rintro e w1 ⟨rfl, hb1⟩)
    have e0 := (hb1.cell (p := ⟨w.heap.size, 0, none⟩) (by simp <;> omega)).trans ((World.cell?_alloc_lt _ _ _ hbs).trans t0);have e1 := (hb1.cell (p := ⟨w.heap.size, 1, none⟩) (by simp <;> omega)).trans ((World.cell?_alloc_lt _ _ _ hbs).trans t1);have hB1 := (hB.alloc hB.size (.cells #[.int .i64 (pcg L k).f0, .int .i64 (pcg L k).f1, .int .i64 (pcg L k).a0, .int .i64 (pcg L k).a1, .int .i64 (pcg L k).b0, .int .i64 (pcg L k).b1, .int .i64 (pcg L k).c0, .int .i64 (pcg L k).c1] 122)).trans (hb1.mono (by simp; omega));go_roundw
    case rel => exact ⟨k + 1, by omega, by go_num, by rw [HN.out], hB1, wl e0, e0, e1⟩
    case measure => simp [intOf]; omega
  ·obtain rfl : k = L.length := by omega
   go_wp2_with fail
   go_ret;exact ⟨rfl, hB⟩
theorem pieceN_range (L : List Pc) (t : Int × Int) (k : Nat) : -1 ≤ pieceN L t k ∧ pieceN L t k < (k : Int) := by
 induction k with
 | zero => exact ⟨Int.le_refl _, by unfold pieceN; omega⟩
 | succ k ih => unfold pieceN; split <;> omega
def resV (v : (Int × Int) × Int) : Int × Int × Int := (if v.2 = 0 then v.1.1 else 0, if v.2 = 0 then v.1.2 else 0, v.2)
def valAt (L : List Pc) (t : Int × Int) (i : Nat) : Int × Int × Int := resV (kVal (kSub 0 t ((pcg L i).f0, (pcg L i).f1)).2 ((pcg L i).a0, (pcg L i).a1) ((pcg L i).b0, (pcg L i).b1) ((pcg L i).c0, (pcg L i).c1) (kSub 0 t ((pcg L i).f0, (pcg L i).f1)).1)
def slopeAt (L : List Pc) (t : Int × Int) (i : Nat) : Int × Int × Int := resV (kSlope (kSub 0 t ((pcg L i).f0, (pcg L i).f1)).2 ((pcg L i).b0, (pcg L i).b1) ((pcg L i).c0, (pcg L i).c1) (kSub 0 t ((pcg L i).f0, (pcg L i).f1)).1)
def atP (L : List Pc) (t : Int × Int) : Int × Int × Int := if vF t = true then (if pieceN L t L.length < 0 then ((pcg L 0).a0, (pcg L 0).a1, 0) else valAt L t (pieceN L t L.length).toNat) else (0, 0, 1)
def slopeP (L : List Pc) (t : Int × Int) : Int × Int × Int := if vF t = true then (if pieceN L t L.length < 0 then (0, 1, 0) else slopeAt L t (pieceN L t L.length).toNat) else (0, 0, 1)
theorem qat_any (L : List Pc) (ok : CurveOK L) (t : Int × Int) (a : Option Addr) (c : Nat) (w : World) (hL : Pcs w.heap.size w a L) :
  Calls Tryz.prog 39 #[.slice a L.length c, .agg #[.int .i64 t.1, .int .i64 t.2]] w fun e w' => e = .returned (.tuple #[.agg #[.int .i64 (atP L t).1, .int .i64 (atP L t).2.1], .int .i64 (atP L t).2.2]) ∧ Below w.heap.size w w' := by
 have hpos := ok.pos;have hlen := ok.len;have hL0 : Pcs ((w.alloc (.cells #[.int .i64 t.1, .int .i64 t.2] 49)).alloc (.cells #[.int .i64 0, .int .i64 0] 49)).heap.size ((w.alloc (.cells #[.int .i64 t.1, .int .i64 t.2] 49)).alloc (.cells #[.int .i64 0, .int .i64 0] 49)) a L := hL.grow ((below_new _ _).alloc (by simp) _);have HV := lh (fun c w h => qvalid_yes L ok a c w h);have HOK := lh ok;have HL := lh hL;obtain ⟨Z, hZ⟩ := nm (atP L t);rw [hZ];have HZ := lh hZ;clear ok hL hZ
 by_cases vt : vF t = true
 case neg =>
  have HVT : Hid (validF t.1 t.2 = false) := lh (by have := Bool.not_eq_true _ ▸ vt; exact this);have HR : Hid (Z = (0, 0, 1)) := lh (by rw [← HZ.out]; unfold atP; rw [if_neg vt]);rw [HR.out];clear vt
  go_enter Tryz.func39, Tryz.ntmps39
  go_wp2_with (first
   | (go_at_call 60; (with_reducible refine (HV.out _ _ ?_).mono ?_); (next => exact hL0); rintro e w1 ⟨rfl, hb1⟩; have t0 : w1.cell? ⟨w.heap.size, 0, none⟩ = some (.int .i64 t.1) := (hb1.cell (p := ⟨w.heap.size, 0, none⟩) (by simp <;> omega)).trans (by simp [go_sem, World.cell?_alloc_past]); have t1 : w1.cell? ⟨w.heap.size, 1, none⟩ = some (.int .i64 t.2) := (hb1.cell (p := ⟨w.heap.size, 1, none⟩) (by simp <;> omega)).trans (by simp [go_sem, World.cell?_alloc_past]); have r0 : w1.cell? ⟨w.heap.size + 1, 0, none⟩ = some (.int .i64 0) := (hb1.cell (p := ⟨w.heap.size + 1, 0, none⟩) (by simp <;> omega)).trans (by simp [go_sem]); have r1 : w1.cell? ⟨w.heap.size + 1, 1, none⟩ = some (.int .i64 0) := (hb1.cell (p := ⟨w.heap.size + 1, 1, none⟩) (by simp <;> omega)).trans (by simp [go_sem]); have r2 : w1.frozen? ⟨w.heap.size + 1, 0, none⟩ = false := (hb1.frozen (p := ⟨w.heap.size + 1, 0, none⟩) (by simp <;> omega)).trans (by simp [go_sem]); have r3 : w1.frozen? ⟨w.heap.size + 1, 1, none⟩ = false := (hb1.frozen (p := ⟨w.heap.size + 1, 1, none⟩) (by simp <;> omega)).trans (by simp [go_sem]); have hB1 : Below w.heap.size w w1 := ((below_new w (.cells #[.int .i64 t.1, .int .i64 t.2] 49)).alloc (by simp) (.cells #[.int .i64 0, .int .i64 0] 49)).trans (hb1.mono (by simp <;> omega)); have z1 := wl r0; simp only at z1)
   | (go_at_call 68; (with_reducible refine (valid_any t.1 t.2 _).mono ?_); rintro e w2 ⟨rfl, hb2⟩; rw [HVT.out]; have hB2 := hB1.trans (hb2.mono hB1.size); have T0 := (hb2.cell (p := ⟨w.heap.size, 0, none⟩) (by simp; omega)).trans t0; have T1 := (hb2.cell (p := ⟨w.heap.size, 1, none⟩) (by simp; omega)).trans t1; have R0 := (hb2.cell (p := ⟨w.heap.size + 1, 0, none⟩) z1).trans r0; have R1 := (hb2.cell (p := ⟨w.heap.size + 1, 1, none⟩) z1).trans r1; have R2 := (hb2.frozen (p := ⟨w.heap.size + 1, 0, none⟩) z1).trans r2; have R3 := (hb2.frozen (p := ⟨w.heap.size + 1, 1, none⟩) z1).trans r3; have z2 := wl R0; simp only at z2; have zz : w.heap.size < w2.heap.size := (by omega); clear t0 t1 r0 r1 r2 r3 hb1 hb2))
  have l0 := (two_cells (v0 := .int .i64 0) (v1 := .int .i64 0) R0 R1).1;have l1 := (two_cells (v0 := .int .i64 0) (v1 := .int .i64 0) R0 R1).2;refine bodyPost_ret (v := .tuple #[.agg #[.int .i64 0, .int .i64 0], .int .i64 1]) (by simp [results, Tryz.results39, go_sem, l0, l1]) rfl ⟨rfl, ?_⟩;exact (hB2.setCell (p := ⟨w.heap.size + 1, 0, none⟩) (Nat.le_succ _) _).setCell (p := ⟨w.heap.size + 1, 1, none⟩) (Nat.le_succ _) _
 case pos =>
  have HVT : Hid (validF t.1 t.2 = true) := lh vt;have HTT := lh vt;have HZ2 : Hid (Z = if pieceN L t L.length < 0 then ((pcg L 0).a0, (pcg L 0).a1, 0) else valAt L t (pieceN L t L.length).toNat) := lh (by rw [← HZ.out]; unfold atP; rw [if_pos vt]);clear vt HZ;obtain ⟨kI, hk⟩ := nm (pieceN L t L.length);have hkr := pieceN_range L t L.length;rw [hk] at hkr;have HK := lh hk;rw [hk] at HZ2;clear hk
  by_cases neg : kI < 0
  ·have g : decide (kI < 0) = true := decide_eq_true neg
   rw [if_pos neg] at HZ2;rw [HZ2.out];clear neg;obtain ⟨b, off, rfl, hb, hc⟩ := HL.out (by omega);obtain ⟨c0, c1, c2, c3, c4, c5, c6, c7⟩ := hc 0 (by omega);simp only [Nat.zero_mul, Nat.add_zero] at c2 c3;have HC2 := lh c2;have HC3 := lh c3;clear c0 c1 c2 c3 c4 c5 c6 c7 hc
   go_enter Tryz.func39, Tryz.ntmps39
   go_wp2_with (first
    | (go_at_call 60; (with_reducible refine (HV.out _ _ ?_).mono ?_); (next => exact hL0); rintro e w1 ⟨rfl, hb1⟩; have t0 : w1.cell? ⟨w.heap.size, 0, none⟩ = some (.int .i64 t.1) := (hb1.cell (p := ⟨w.heap.size, 0, none⟩) (by simp <;> omega)).trans (by simp [go_sem, World.cell?_alloc_past]); have t1 : w1.cell? ⟨w.heap.size, 1, none⟩ = some (.int .i64 t.2) := (hb1.cell (p := ⟨w.heap.size, 1, none⟩) (by simp <;> omega)).trans (by simp [go_sem, World.cell?_alloc_past]); have r0 : w1.cell? ⟨w.heap.size + 1, 0, none⟩ = some (.int .i64 0) := (hb1.cell (p := ⟨w.heap.size + 1, 0, none⟩) (by simp <;> omega)).trans (by simp [go_sem]); have r1 : w1.cell? ⟨w.heap.size + 1, 1, none⟩ = some (.int .i64 0) := (hb1.cell (p := ⟨w.heap.size + 1, 1, none⟩) (by simp <;> omega)).trans (by simp [go_sem]); have r2 : w1.frozen? ⟨w.heap.size + 1, 0, none⟩ = false := (hb1.frozen (p := ⟨w.heap.size + 1, 0, none⟩) (by simp <;> omega)).trans (by simp [go_sem]); have r3 : w1.frozen? ⟨w.heap.size + 1, 1, none⟩ = false := (hb1.frozen (p := ⟨w.heap.size + 1, 1, none⟩) (by simp <;> omega)).trans (by simp [go_sem]); have hB1 : Below w.heap.size w w1 := ((below_new w (.cells #[.int .i64 t.1, .int .i64 t.2] 49)).alloc (by simp) (.cells #[.int .i64 0, .int .i64 0] 49)).trans (hb1.mono (by simp <;> omega)); have z1 := wl r0; simp only at z1)
    | (go_at_call 68; (with_reducible refine (valid_any t.1 t.2 _).mono ?_); rintro e w2 ⟨rfl, hb2⟩; rw [HVT.out]; have hB2 := hB1.trans (hb2.mono hB1.size); have T0 := (hb2.cell (p := ⟨w.heap.size, 0, none⟩) (by simp; omega)).trans t0; have T1 := (hb2.cell (p := ⟨w.heap.size, 1, none⟩) (by simp; omega)).trans t1; have R0 := (hb2.cell (p := ⟨w.heap.size + 1, 0, none⟩) z1).trans r0; have R1 := (hb2.cell (p := ⟨w.heap.size + 1, 1, none⟩) z1).trans r1; have R2 := (hb2.frozen (p := ⟨w.heap.size + 1, 0, none⟩) z1).trans r2; have R3 := (hb2.frozen (p := ⟨w.heap.size + 1, 1, none⟩) z1).trans r3; have z2 := wl R0; simp only at z2; have zz : w.heap.size < w2.heap.size := (by omega); clear t0 t1 r0 r1 r2 r3 hb1 hb2)
    | (go_at_call 69; have W20 : Below w2.heap.size w2 (w2.alloc (.cells #[.int .i64 0] 132)) := below_new _ _; have hB3 := hB2.trans (W20.mono hB2.size); (with_reducible refine (piece_any L HOK.out t HTT.out (some ⟨b, off, none⟩) c _ (HL.out.grow hB3)).mono ?_); rw [HK.out]; rintro e w4 ⟨rfl, hb4⟩; have hB4 := hB3.trans (hb4.mono hB3.size); have hb5 := W20.trans (hb4.mono W20.size); have S0 : w4.cell? ⟨w2.heap.size, 0, none⟩ = some (.int .i64 0) := (hb4.cell (p := ⟨w2.heap.size, 0, none⟩) (by simp)).trans (by simp); have S1 : w4.frozen? ⟨w2.heap.size, 0, none⟩ = false := (hb4.frozen (p := ⟨w2.heap.size, 0, none⟩) (by simp)).trans (by simp); have t0 := (hb5.cell (p := ⟨w.heap.size, 0, none⟩) (by simp; omega)).trans T0; have t1 := (hb5.cell (p := ⟨w.heap.size, 1, none⟩) (by simp; omega)).trans T1; have r0 := (hb5.cell (p := ⟨w.heap.size + 1, 0, none⟩) z2).trans R0; have r1 := (hb5.cell (p := ⟨w.heap.size + 1, 1, none⟩) z2).trans R1; have r2 := (hb5.frozen (p := ⟨w.heap.size + 1, 0, none⟩) z2).trans R2; have r3 := (hb5.frozen (p := ⟨w.heap.size + 1, 1, none⟩) z2).trans R3; have hBs4 : w2.heap.size < w4.heap.size := wl S0; have d2 := (hB4.cell (p := ⟨b, off + 2, none⟩) hb).trans HC2.out; have d3 := (hB4.cell (p := ⟨b, off + 3, none⟩) hb).trans HC3.out; clear T0 T1 R0 R1 R2 R3 hb4 hb5 W20 hB3))
   have l0 := (two_cells (v0 := .int .i64 (pcg L 0).a0) (v1 := .int .i64 (pcg L 0).a1) r0 r1).1;have l1 := (two_cells (v0 := .int .i64 (pcg L 0).a0) (v1 := .int .i64 (pcg L 0).a1) r0 r1).2;refine bodyPost_ret (v := .tuple #[.agg #[.int .i64 (pcg L 0).a0, .int .i64 (pcg L 0).a1], .int .i64 0]) (by simp [results, Tryz.results39, go_sem, l0, l1]) rfl ⟨rfl, ?_⟩;exact (hB4.setCell (p := ⟨w.heap.size + 1, 0, none⟩) (Nat.le_succ _) _).setCell (p := ⟨w.heap.size + 1, 1, none⟩) (Nat.le_succ _) _
  ·have g : decide (kI < 0) = false := decide_eq_false neg
   rw [if_neg neg] at HZ2;obtain ⟨i, rfl⟩ := Int.eq_ofNat_of_zero_le (show 0 ≤ kI by omega);rw [Int.toNat_natCast] at HZ2;have hi : i < L.length := by omega
   have hi1 : (i : Int) < (L.length : Int) := by omega
   have hi0 : (0 : Int) ≤ (i : Int) := by omega
   have hok := HOK.out.val i hi;have VF : vF ((pcg L i).f0, (pcg L i).f1) = true := hok.f;have VA : vF ((pcg L i).a0, (pcg L i).a1) = true := hok.a;have VB : vF ((pcg L i).b0, (pcg L i).b1) = true := hok.b;have VC : vF ((pcg L i).c0, (pcg L i).c1) = true := hok.c;obtain ⟨K1, hK1⟩ := nm (kSub 0 t ((pcg L i).f0, (pcg L i).f1));have V1 : vF K1.1 = true := by rw [← hK1]; exact kSub_valid HTT.out VF
   have HC1 : Hid (∀ (Bs : Nat) (w : World), w.cell? ⟨Bs, 0, none⟩ = some (.int .i64 0) → w.frozen? ⟨Bs, 0, none⟩ = false → Calls Tryz.prog 62 #[.pointer (some ⟨Bs, 0, none⟩), .agg #[.int .i64 t.1, .int .i64 t.2], .agg #[.int .i64 (pcg L i).f0, .int .i64 (pcg L i).f1]] w fun z w' => z = .returned (.agg #[.int .i64 K1.1.1, .int .i64 K1.1.2]) ∧ Sm Bs K1.2 w w') := lh fun Bs w h0 h1 => by
    have := ksub_any Bs 0 t ((pcg L i).f0, (pcg L i).f1) HTT.out VF w h0 h1
    rwa [hK1] at this
   obtain ⟨K2, hK2⟩ := nm (kVal K1.2 ((pcg L i).a0, (pcg L i).a1) ((pcg L i).b0, (pcg L i).b1) ((pcg L i).c0, (pcg L i).c1) K1.1)
   have HC2 : Hid (∀ (Bs : Nat) (w : World), w.cell? ⟨Bs, 0, none⟩ = some (.int .i64 K1.2) → w.frozen? ⟨Bs, 0, none⟩ = false → Calls Tryz.prog 63 #[.pointer (some ⟨Bs, 0, none⟩), .agg #[.int .i64 (pcg L i).f0, .int .i64 (pcg L i).f1, .int .i64 (pcg L i).a0, .int .i64 (pcg L i).a1, .int .i64 (pcg L i).b0, .int .i64 (pcg L i).b1, .int .i64 (pcg L i).c0, .int .i64 (pcg L i).c1], .agg #[.int .i64 K1.1.1, .int .i64 K1.1.2]] w fun z w' => z = .returned (.agg #[.int .i64 K2.1.1, .int .i64 K2.1.2]) ∧ Sm Bs K2.2 w w') := lh fun Bs w h0 h1 => by
    have := qvalue_any Bs K1.2 ((pcg L i).f0, (pcg L i).f1) ((pcg L i).a0, (pcg L i).a1) ((pcg L i).b0, (pcg L i).b1) ((pcg L i).c0, (pcg L i).c1) K1.1 VA VB VC V1 w h0 h1
    rwa [hK2] at this
   have HR : Hid (Z = (if K2.2 = 0 then K2.1.1 else 0, if K2.2 = 0 then K2.1.2 else 0, K2.2)) := lh (by rw [HZ2.out]; unfold valAt; simp only [hK1, hK2]; rfl);obtain ⟨q1, hq1⟩ := nm ((if K2.2 = 0 then K2.1.1 else 0));obtain ⟨q2, hq2⟩ := nm ((if K2.2 = 0 then K2.1.2 else 0))
   have HC3 : Hid (∀ (Bs : Nat) (w : World), w.cell? ⟨Bs, 0, none⟩ = some (.int .i64 K2.2) → Calls Tryz.prog 70 #[.pointer (some ⟨Bs, 0, none⟩), .agg #[.int .i64 K2.1.1, .int .i64 K2.1.2]] w fun z w' => z = .returned (.tuple #[.agg #[.int .i64 q1, .int .i64 q2], .int .i64 K2.2]) ∧ Below w.heap.size w w') := lh fun Bs w h0 => by
    have := qresult_any Bs K2.2 K2.1 w h0
    rwa [hq1, hq2] at this
   rw [hq1, hq2] at HR;rw [HR.out];clear hq1 hq2 hK1 hK2 V1 VF VA VB VC hok HZ2 neg;obtain ⟨b, off, rfl, hb, hc⟩ := HL.out (by omega);obtain ⟨c0, c1, c2, c3, c4, c5, c6, c7⟩ := hc i hi;have HC := lh (hc i hi);clear hc c0 c1 c2 c3 c4 c5 c6 c7
   go_enter Tryz.func39, Tryz.ntmps39
   go_upto_region 7 with (first
    | (go_at_call 60; (with_reducible refine (HV.out _ _ ?_).mono ?_); (next => exact hL0); rintro e w1 ⟨rfl, hb1⟩; have t0 : w1.cell? ⟨w.heap.size, 0, none⟩ = some (.int .i64 t.1) := (hb1.cell (p := ⟨w.heap.size, 0, none⟩) (by simp <;> omega)).trans (by simp [go_sem, World.cell?_alloc_past]); have t1 : w1.cell? ⟨w.heap.size, 1, none⟩ = some (.int .i64 t.2) := (hb1.cell (p := ⟨w.heap.size, 1, none⟩) (by simp <;> omega)).trans (by simp [go_sem, World.cell?_alloc_past]); have r0 : w1.cell? ⟨w.heap.size + 1, 0, none⟩ = some (.int .i64 0) := (hb1.cell (p := ⟨w.heap.size + 1, 0, none⟩) (by simp <;> omega)).trans (by simp [go_sem]); have r1 : w1.cell? ⟨w.heap.size + 1, 1, none⟩ = some (.int .i64 0) := (hb1.cell (p := ⟨w.heap.size + 1, 1, none⟩) (by simp <;> omega)).trans (by simp [go_sem]); have r2 : w1.frozen? ⟨w.heap.size + 1, 0, none⟩ = false := (hb1.frozen (p := ⟨w.heap.size + 1, 0, none⟩) (by simp <;> omega)).trans (by simp [go_sem]); have r3 : w1.frozen? ⟨w.heap.size + 1, 1, none⟩ = false := (hb1.frozen (p := ⟨w.heap.size + 1, 1, none⟩) (by simp <;> omega)).trans (by simp [go_sem]); have hB1 : Below w.heap.size w w1 := ((below_new w (.cells #[.int .i64 t.1, .int .i64 t.2] 49)).alloc (by simp) (.cells #[.int .i64 0, .int .i64 0] 49)).trans (hb1.mono (by simp <;> omega)); have z1 := wl r0; simp only at z1)
    | (go_at_call 68; (with_reducible refine (valid_any t.1 t.2 _).mono ?_); rintro e w2 ⟨rfl, hb2⟩; rw [HVT.out]; have hB2 := hB1.trans (hb2.mono hB1.size); have T0 := (hb2.cell (p := ⟨w.heap.size, 0, none⟩) (by simp; omega)).trans t0; have T1 := (hb2.cell (p := ⟨w.heap.size, 1, none⟩) (by simp; omega)).trans t1; have R0 := (hb2.cell (p := ⟨w.heap.size + 1, 0, none⟩) z1).trans r0; have R1 := (hb2.cell (p := ⟨w.heap.size + 1, 1, none⟩) z1).trans r1; have R2 := (hb2.frozen (p := ⟨w.heap.size + 1, 0, none⟩) z1).trans r2; have R3 := (hb2.frozen (p := ⟨w.heap.size + 1, 1, none⟩) z1).trans r3; have z2 := wl R0; simp only at z2; have zz : w.heap.size < w2.heap.size := (by omega); clear t0 t1 r0 r1 r2 r3 hb1 hb2)
    | (go_at_call 69; have W20 : Below w2.heap.size w2 (w2.alloc (.cells #[.int .i64 0] 132)) := below_new _ _; have hB3 := hB2.trans (W20.mono hB2.size); (with_reducible refine (piece_any L HOK.out t HTT.out (some ⟨b, off, none⟩) c _ (HL.out.grow hB3)).mono ?_); rw [HK.out]; rintro e w4 ⟨rfl, hb4⟩; have hB4 := hB3.trans (hb4.mono hB3.size); have hb5 := W20.trans (hb4.mono W20.size); have S0 : w4.cell? ⟨w2.heap.size, 0, none⟩ = some (.int .i64 0) := (hb4.cell (p := ⟨w2.heap.size, 0, none⟩) (by simp)).trans (by simp); have S1 : w4.frozen? ⟨w2.heap.size, 0, none⟩ = false := (hb4.frozen (p := ⟨w2.heap.size, 0, none⟩) (by simp)).trans (by simp); have t0 := (hb5.cell (p := ⟨w.heap.size, 0, none⟩) (by simp; omega)).trans T0; have t1 := (hb5.cell (p := ⟨w.heap.size, 1, none⟩) (by simp; omega)).trans T1; have r0 := (hb5.cell (p := ⟨w.heap.size + 1, 0, none⟩) z2).trans R0; have r1 := (hb5.cell (p := ⟨w.heap.size + 1, 1, none⟩) z2).trans R1; have r2 := (hb5.frozen (p := ⟨w.heap.size + 1, 0, none⟩) z2).trans R2; have r3 := (hb5.frozen (p := ⟨w.heap.size + 1, 1, none⟩) z2).trans R3; have hBs4 : w2.heap.size < w4.heap.size := wl S0; clear T0 T1 R0 R1 R2 R3 hb4 hb5 W20 hB3))
   have T0 := t0;have T1 := t1;have R0 := r0;have R1 := r1;have R2 := r2;have R3 := r3;clear t0 t1 r0 r1 r2 r3;obtain ⟨Bs, hBB⟩ := nm (w2.heap.size);simp only [hBB] at S0 S1 hBs4 z2 ⊢;clear hBB;generalize w4 = W0 at *;obtain ⟨c0, c1, c2, c3, c4, c5, c6, c7⟩ := HC.out;have d0 := (hB4.cell (p := ⟨b, off + i * 8, none⟩) hb).trans c0;have d1 := (hB4.cell (p := ⟨b, off + i * 8 + 1, none⟩) hb).trans c1;have d2 := (hB4.cell (p := ⟨b, off + i * 8 + 2, none⟩) hb).trans c2;have d3 := (hB4.cell (p := ⟨b, off + i * 8 + 3, none⟩) hb).trans c3;have d4 := (hB4.cell (p := ⟨b, off + i * 8 + 4, none⟩) hb).trans c4;have d5 := (hB4.cell (p := ⟨b, off + i * 8 + 5, none⟩) hb).trans c5;have d6 := (hB4.cell (p := ⟨b, off + i * 8 + 6, none⟩) hb).trans c6;have d7 := (hB4.cell (p := ⟨b, off + i * 8 + 7, none⟩) hb).trans c7;clear c0 c1 c2 c3 c4 c5 c6 c7
   have HX : Hid (∀ x w', Sm Bs x W0 w' → W0.heap.size ≤ w'.heap.size ∧ w'.cell? ⟨b, off + i * 8, none⟩ = some (.int .i64 (pcg L i).f0) ∧ w'.cell? ⟨b, off + i * 8 + 1, none⟩ = some (.int .i64 (pcg L i).f1) ∧ w'.cell? ⟨b, off + i * 8 + 2, none⟩ = some (.int .i64 (pcg L i).a0) ∧ w'.cell? ⟨b, off + i * 8 + 3, none⟩ = some (.int .i64 (pcg L i).a1) ∧ w'.cell? ⟨b, off + i * 8 + 4, none⟩ = some (.int .i64 (pcg L i).b0) ∧ w'.cell? ⟨b, off + i * 8 + 5, none⟩ = some (.int .i64 (pcg L i).b1) ∧ w'.cell? ⟨b, off + i * 8 + 6, none⟩ = some (.int .i64 (pcg L i).c0) ∧ w'.cell? ⟨b, off + i * 8 + 7, none⟩ = some (.int .i64 (pcg L i).c1) ∧ w'.cell? ⟨w.heap.size, 0, none⟩ = some (.int .i64 t.1) ∧ w'.cell? ⟨w.heap.size, 1, none⟩ = some (.int .i64 t.2)) := lh fun x w' h =>
    ⟨h.size, (h.other (p := ⟨b, off + i * 8, none⟩) (by simp; omega) (by simp; omega)).trans d0, (h.other (p := ⟨b, off + i * 8 + 1, none⟩) (by simp; omega) (by simp; omega)).trans d1, (h.other (p := ⟨b, off + i * 8 + 2, none⟩) (by simp; omega) (by simp; omega)).trans d2, (h.other (p := ⟨b, off + i * 8 + 3, none⟩) (by simp; omega) (by simp; omega)).trans d3, (h.other (p := ⟨b, off + i * 8 + 4, none⟩) (by simp; omega) (by simp; omega)).trans d4, (h.other (p := ⟨b, off + i * 8 + 5, none⟩) (by simp; omega) (by simp; omega)).trans d5, (h.other (p := ⟨b, off + i * 8 + 6, none⟩) (by simp; omega) (by simp; omega)).trans d6, (h.other (p := ⟨b, off + i * 8 + 7, none⟩) (by simp; omega) (by simp; omega)).trans d7, (h.other (p := ⟨w.heap.size, 0, none⟩) (by simp; omega) (by simp; omega)).trans T0, (h.other (p := ⟨w.heap.size, 1, none⟩) (by simp; omega) (by simp; omega)).trans T1⟩
   have HY : Hid (∀ x w', Sm Bs x W0 w' → w'.cell? ⟨w.heap.size + 1, 0, none⟩ = some (.int .i64 0) ∧ w'.cell? ⟨w.heap.size + 1, 1, none⟩ = some (.int .i64 0) ∧ w'.frozen? ⟨w.heap.size + 1, 0, none⟩ = false ∧ w'.frozen? ⟨w.heap.size + 1, 1, none⟩ = false) := lh fun x w' h =>
    ⟨(h.other (p := ⟨w.heap.size + 1, 0, none⟩) (by simp; omega) (by simp; omega)).trans R0, (h.other (p := ⟨w.heap.size + 1, 1, none⟩) (by simp; omega) (by simp; omega)).trans R1, (h.otherF (p := ⟨w.heap.size + 1, 0, none⟩) (by simp; omega) (by simp; omega)).trans R2, (h.otherF (p := ⟨w.heap.size + 1, 1, none⟩) (by simp; omega) (by simp; omega)).trans R3⟩
   have HZs : Hid (∀ x w', Sm Bs x W0 w' → ∀ v0 v1, (fun w' => W0.heap.size ≤ w'.heap.size ∧ w'.cell? ⟨b, off + i * 8, none⟩ = some (.int .i64 (pcg L i).f0) ∧ w'.cell? ⟨b, off + i * 8 + 1, none⟩ = some (.int .i64 (pcg L i).f1) ∧ w'.cell? ⟨b, off + i * 8 + 2, none⟩ = some (.int .i64 (pcg L i).a0) ∧ w'.cell? ⟨b, off + i * 8 + 3, none⟩ = some (.int .i64 (pcg L i).a1) ∧ w'.cell? ⟨b, off + i * 8 + 4, none⟩ = some (.int .i64 (pcg L i).b0) ∧ w'.cell? ⟨b, off + i * 8 + 5, none⟩ = some (.int .i64 (pcg L i).b1) ∧ w'.cell? ⟨b, off + i * 8 + 6, none⟩ = some (.int .i64 (pcg L i).c0) ∧ w'.cell? ⟨b, off + i * 8 + 7, none⟩ = some (.int .i64 (pcg L i).c1) ∧ w'.cell? ⟨w.heap.size, 0, none⟩ = some (.int .i64 t.1) ∧ w'.cell? ⟨w.heap.size, 1, none⟩ = some (.int .i64 t.2)) ((w'.setCell ⟨w.heap.size + 1, 0, none⟩ v0).setCell ⟨w.heap.size + 1, 1, none⟩ v1)) := lh fun x w' h v0 v1 => by
    obtain ⟨h0, h1, h2, h3, h4, h5, h6, h7, h8, h9, h10⟩ := HX.out x w' h;refine ⟨by simpa using h0, ?_, ?_, ?_, ?_, ?_, ?_, ?_, ?_, ?_, ?_⟩
    all_goals (refine (two_other (by omega) _ _ _).trans ?_; assumption)
   have hsd : Sm Bs 0 W0 W0.drew := (Sm.refl S0 S1).drew;clear S0 S1 T0 T1 R0 R1 R2 R3 d0 d1 d2 d3 d4 d5 d6 d7;refine wp_region_held_drew (S := (fun w' => W0.heap.size ≤ w'.heap.size ∧ w'.cell? ⟨b, off + i * 8, none⟩ = some (.int .i64 (pcg L i).f0) ∧ w'.cell? ⟨b, off + i * 8 + 1, none⟩ = some (.int .i64 (pcg L i).f1) ∧ w'.cell? ⟨b, off + i * 8 + 2, none⟩ = some (.int .i64 (pcg L i).a0) ∧ w'.cell? ⟨b, off + i * 8 + 3, none⟩ = some (.int .i64 (pcg L i).a1) ∧ w'.cell? ⟨b, off + i * 8 + 4, none⟩ = some (.int .i64 (pcg L i).b0) ∧ w'.cell? ⟨b, off + i * 8 + 5, none⟩ = some (.int .i64 (pcg L i).b1) ∧ w'.cell? ⟨b, off + i * 8 + 6, none⟩ = some (.int .i64 (pcg L i).c0) ∧ w'.cell? ⟨b, off + i * 8 + 7, none⟩ = some (.int .i64 (pcg L i).c1) ∧ w'.cell? ⟨w.heap.size, 0, none⟩ = some (.int .i64 t.1) ∧ w'.cell? ⟨w.heap.size, 1, none⟩ = some (.int .i64 t.2))) (by kernel_rfl) (HX.out _ _ hsd) (fun hHeld => ?_);refine tkB 0 ?_;simp only [Act.put, s_1, s_2, s_3, s_4, s_6];refine tkB 1 ?_;simp only [Act.put, s_1, s_2, s_3, s_4, s_5, s_6];refine tkB 2 ?_;simp only [Act.put, s_1, s_2, s_3, s_4, s_5, s_6];refine tkB 3 ?_;simp only [Act.put, s_1, s_2, s_3, s_4, s_5, s_6];refine tkB 4 ?_;simp only [Act.put, s_1, s_2, s_3, s_4, s_5, s_6];refine tkB 5 ?_;simp only [Act.put, s_1, s_2, s_3, s_4, s_5, s_6];refine tkB 6 ?_;simp only [Act.put, s_1, s_2, s_3, s_4, s_5, s_6];refine tkB 7 ?_;simp only [Act.put, s_1, s_2, s_3, s_4, s_5, s_6];refine tkB 8 ?_;simp only [Act.put, s_1, s_2, s_3, s_4, s_5, s_6];refine tkB 9 ?_;simp only [Act.put, s_1, s_2, s_3, s_4, s_5, s_6];refine tkB 10 ?_;simp only [Act.put, s_1, s_2, s_3, s_4, s_5, s_6];refine tkB 11 ?_;simp only [Act.put, s_1, s_2, s_3, s_4, s_5, s_6];refine tkB 12 ?_;simp only [Act.put, s_1, s_2, s_3, s_4, s_5, s_6];refine r1 13 (fun K hK => ?_)
   try simp only [s_4, s_5, s_6]
   go_simp
   (go_at_call 62; go_split_ands; (with_reducible refine (HC1.out _ _ hsd.cell hsd.free).mono ?_); rintro z w5 ⟨rfl, ht1⟩; have hs1 := hsd.trans ht1)
   go_wp2_with fail
   refine hK.out _ _ (HX.out _ _ hs1) (fun hHeld => ?_);clear hK K
   try simp only [Act.put, s_1, s_2, s_3, s_4, s_5, s_6]
   refine r1 14 (fun K hK => ?_)
   try simp only [s_4, s_5, s_6]
   go_simp
   (go_at_call 63; go_split_ands; (with_reducible refine (HC2.out _ _ hs1.cell hs1.free).mono ?_); rintro z w6 ⟨rfl, ht2⟩; have hs2 := hs1.trans ht2)
   go_wp2_with fail
   refine hK.out _ _ (HX.out _ _ hs2) (fun hHeld => ?_);clear hK K
   try simp only [Act.put, s_1, s_2, s_3, s_4, s_5, s_6]
   refine r1 15 (fun K hK => ?_)
   try simp only [s_4, s_5, s_6]
   go_simp
   (go_at_call 70; go_split_ands; (with_reducible refine (HC3.out _ _ hs2.cell).mono ?_); rintro z w7 ⟨rfl, hb7⟩; have hs3 := hs2.then hb7)
   go_wp2_with fail
   refine hK.out _ _ (HX.out _ _ hs3) (fun hHeld => ?_);clear hK K
   try simp only [Act.put, s_1, s_2, s_3, s_4, s_5, s_6]
   refine tkB 16 ?_;simp only [Act.put, s_1, s_2, s_3, s_4, s_5, s_6];refine tkB 17 ?_;simp only [Act.put, s_1, s_2, s_3, s_4, s_5, s_6];refine r1 18 (fun K hK => ?_);go_split_ands;obtain ⟨g0, g1, g2, g3⟩ := HY.out _ _ hs3
   try simp only [s_4, s_5, s_6]
   go_wp2_with fail
   refine hK.out _ _ (HZs.out _ _ hs3 _ _) (fun hHeld => ?_);clear hK K
   try simp only [Act.put, s_1, s_2, s_3, s_4, s_5, s_6]
   refine tkB 19 ?_;simp only [Act.put, s_1, s_2, s_3, s_4, s_5, s_6];refine wpAnyH_done (by kernel_rfl) ?_ _
   go_wp2_with fail
   have l0 := (two_cells (v0 := .int .i64 q1) (v1 := .int .i64 q2) g0 g1).1;have l1 := (two_cells (v0 := .int .i64 q1) (v1 := .int .i64 q2) g0 g1).2;refine bodyPost_ret (v := .tuple #[.agg #[.int .i64 q1, .int .i64 q2], .int .i64 K2.2]) (by simp [results, Tryz.results39, go_sem, l0, l1]) rfl ⟨rfl, ?_⟩;have hB5 := hB4.trans (hs3.below (n := w.heap.size) (by omega) (by omega));exact (hB5.setCell (p := ⟨w.heap.size + 1, 0, none⟩) (Nat.le_succ _) _).setCell (p := ⟨w.heap.size + 1, 1, none⟩) (Nat.le_succ _) _
end
section
def zMv : Mv := ⟨⟨#[]⟩, 0, 0, 0, 0⟩
def mvI (M : List Mv) (s : ByteArray) : Int := mov_first M (fun y => decide (y.name = s))
def mvB (M : List Mv) (s : ByteArray) : Bool := decide (0 ≤ mvI M s)
def mvO (M : List Mv) (s : ByteArray) : Mv := if mvI M s < 0 then zMv else mg M (mvI M s).toNat
theorem mv_no {M : List Mv} {s : ByteArray} (h : mvI M s = -1) : mvB M s = false ∧ mvO M s = zMv := by
 unfold mvB mvO;rw [h];exact ⟨rfl, rfl⟩
theorem mv_yes {M : List Mv} {s : ByteArray} {k : Nat} (h : mvI M s = k) : mvB M s = true ∧ mvO M s = mg M k := by
 unfold mvB mvO;rw [h];exact ⟨dT (Int.natCast_nonneg k), by rw [if_neg (by omega)]; rfl⟩
def ordrAt (C : List CueR) (S N : List Int) (i k j : Nat) : Prop := mvB (cg C k).moves (mg (cg C i).moves j).name = true → ig S k + ig N k ≤ ig S i
def OrdrOK (C : List CueR) (S N : List Int) : Prop := ∀ i, i < C.length → ∀ k, k < i → ∀ j, j < (cg C i).moves.length → ordrAt C S N i k j
noncomputable def ordrB (C : List CueR) (S N : List Int) : Bool := @decide (OrdrOK C S N) (Classical.propDecidable _)
theorem ordrB_iff {C : List CueR} {S N : List Int} : ordrB C S N = true ↔ OrdrOK C S N := by exact @decide_eq_true_iff (OrdrOK C S N) (Classical.propDecidable _)
theorem ordr_no {C : List CueR} {S N : List Int} (n : ¬ OrdrOK C S N) : ordrB C S N = false := by
 cases h : ordrB C S N
 ·rfl
 ·exact absurd (ordrB_iff.1 h) n
def zPc : Pc := ⟨0, 0, 0, 0, 0, 0, 0, 0⟩
def pieceP (x : Pc) (s z : Int) (up : Bool) : Pc × Int :=
 let f := addP (lowN s 1000) (lowD s 1000) x.f0 x.f1
 if f.2.2 = 0 then
  let a := addP z 1 (if up then x.a0 else -x.a0) x.a1
  (⟨f.1, f.2.1, a.1, a.2.1, if up then x.b0 else -x.b0, x.b1, if up then x.c0 else -x.c0, x.c1⟩, a.2.2)
 else (zPc, f.2.2)
def lastP (out : List Pc) : Pc := pcg out (out.length - 1)
def putP (out : List Pc) (y : Pc) : List Pc := if (lastP out).f0 = y.f0 ∧ (lastP out).f1 = y.f1 then out.set (out.length - 1) y else out ++ [y]
def wayTo (s z : Int) (up : Bool) (out W : List Pc) : Nat → List Pc × Int
 | 0 => (out, 0)
 | k + 1 => if (wayTo s z up out W k).2 = 0 then (if (pieceP (pcg W k) s z up).2 = 0 then (putP (wayTo s z up out W k).1 (pieceP (pcg W k) s z up).1, 0) else ([], (pieceP (pcg W k) s z up).2)) else wayTo s z up out W k
noncomputable def pathTo (h : HouseR) (C : List CueR) (S : List Int) (k : Nat) : Nat → List Pc × Int
 | 0 => ([⟨0, 1, (hg h.sets k).high, 1, 0, 1, 0, 1⟩], 0)
 | n + 1 =>
  let r := pathTo h C S k n
  let m := mvO (cg C n).moves (hg h.sets k).name
  let z := ig (trimL h C n) k
  if r.2 = 0 ∧ mvB (cg C n).moves (hg h.sets k).name = true ∧ m.to ≠ z then
   let d := if z ≤ m.to then m.to - z else z - m.to
   let W := curveL d m.rise m.fall (topV d m)
   wayTo (ig S n) z (decide (z < m.to)) r.1 W W.length
  else r
noncomputable def pathP (h : HouseR) (C : List CueR) (S : List Int) (k : Nat) : List Pc × Int :=
 if (pathTo h C S k C.length).2 = 0 then (if 200 < (pathTo h C S k C.length).1.length then ([], 4) else pathTo h C S k C.length) else ([], (pathTo h C S k C.length).2)
theorem put_len (out : List Pc) (y : Pc) : 0 < (putP out y).length ∧ (putP out y).length ≤ out.length + 1 ∧ out.length ≤ (putP out y).length ∨ out.length = 0 ∧ (putP out y).length ≤ out.length + 1 ∧ out.length ≤ (putP out y).length := by
 unfold putP
 split
 ·rw [List.length_set]; omega
 ·rw [List.length_append]; simp
theorem wayTo_len (s z : Int) (up : Bool) (out W : List Pc) : ∀ k, (wayTo s z up out W k).2 = 0 → out.length ≤ (wayTo s z up out W k).1.length ∧ (wayTo s z up out W k).1.length ≤ out.length + k
 | 0, _ => by simp [wayTo]
 | k + 1, h => by
  simp only [wayTo] at h ⊢
  by_cases a : (wayTo s z up out W k).2 = 0
  ·rw [if_pos a] at h ⊢
   have ih := wayTo_len s z up out W k a
   by_cases b : (pieceP (pcg W k) s z up).2 = 0
   ·rw [if_pos b] at h ⊢
    have p := put_len (wayTo s z up out W k).1 (pieceP (pcg W k) s z up).1;show _ ≤ (putP _ _).length ∧ (putP _ _).length ≤ _;omega
   ·rw [if_neg b] at h; exact absurd h b
  ·rw [if_neg a] at h; exact absurd h a
theorem wayTo_err {s z : Int} {up : Bool} {out W : List Pc} {k : Nat} (h : (wayTo s z up out W k).2 ≠ 0) : ∀ n, k ≤ n → wayTo s z up out W n = wayTo s z up out W k
 | 0, hn => by
  obtain rfl : k = 0 := by omega
  rfl
 | n + 1, hn => by
  rcases Nat.lt_or_ge n k with l | l
  ·obtain rfl : k = n + 1 := by omega
   rfl
  ·have ih := wayTo_err h n l
   rw [wayTo, ih, if_neg h]
theorem wayTo_fail {s z : Int} {up : Bool} {out W : List Pc} {k : Nat} (h : (wayTo s z up out W k).2 = 0) (e : (pieceP (pcg W k) s z up).2 ≠ 0) : wayTo s z up out W (k + 1) = ([], (pieceP (pcg W k) s z up).2) := by
 rw [wayTo, if_pos h, if_neg e]
theorem wayTo_next {s z : Int} {up : Bool} {out W : List Pc} {k : Nat} (h : (wayTo s z up out W k).2 = 0) (e : (pieceP (pcg W k) s z up).2 = 0) : wayTo s z up out W (k + 1) = (putP (wayTo s z up out W k).1 (pieceP (pcg W k) s z up).1, 0) := by
 rw [wayTo, if_pos h, if_pos e]
theorem pathTo_err {h : HouseR} {C : List CueR} {S : List Int} {k n : Nat} (e : (pathTo h C S k n).2 ≠ 0) : ∀ m, n ≤ m → pathTo h C S k m = pathTo h C S k n
 | 0, hn => by
  obtain rfl : n = 0 := by omega
  rfl
 | m + 1, hn => by
  rcases Nat.lt_or_ge m n with l | l
  ·obtain rfl : n = m + 1 := by omega
   rfl
  ·have ih := pathTo_err e m l
   rw [pathTo, ih];exact if_neg (fun q => e q.1)
theorem pathTo_stay {h : HouseR} {C : List CueR} {S : List Int} {k n : Nat} (e : mvB (cg C n).moves (hg h.sets k).name = false ∨ (mvO (cg C n).moves (hg h.sets k).name).to = ig (trimL h C n) k) : pathTo h C S k (n + 1) = pathTo h C S k n := by
 rw [pathTo];refine if_neg (fun q => ?_);rcases e with e | e
 ·rw [e] at q; exact absurd q.2.1 (by decide)
 ·exact q.2.2 e
theorem pathTo_go {h : HouseR} {C : List CueR} {S : List Int} {k n : Nat} {m : Mv} {z d : Int} {W : List Pc} (e : (pathTo h C S k n).2 = 0) (b : mvB (cg C n).moves (hg h.sets k).name = true) (hm : mvO (cg C n).moves (hg h.sets k).name = m) (hz : ig (trimL h C n) k = z) (ne : m.to ≠ z) (hd : (if z ≤ m.to then m.to - z else z - m.to) = d) (hW : curveL d m.rise m.fall (topV d m) = W) :
  pathTo h C S k (n + 1) = wayTo (ig S n) z (decide (z < m.to)) (pathTo h C S k n).1 W W.length := by
 rw [pathTo];simp only [hm, hz, hd, hW];exact if_pos ⟨e, b, ne⟩
theorem curve_len4 (d R F t : Int) : (curveL d R F t).length ≤ 4 := by
 unfold curveL
 split
 ·simp
 ·split <;> simp
theorem pathTo_len (h : HouseR) (C : List CueR) (S : List Int) (k : Nat) : ∀ n, (pathTo h C S k n).2 = 0 → 1 ≤ (pathTo h C S k n).1.length ∧ (pathTo h C S k n).1.length ≤ 1 + 4 * n
 | 0, _ => by simp [pathTo]
 | n + 1, e => by
  by_cases a : (pathTo h C S k n).2 = 0
  ·have ih := pathTo_len h C S k n a
   by_cases b : mvB (cg C n).moves (hg h.sets k).name = true
   ·by_cases c : (mvO (cg C n).moves (hg h.sets k).name).to = ig (trimL h C n) k
    ·rw [pathTo_stay (.inr c)]; omega
    ·have g := pathTo_go (S := S) a b rfl rfl c rfl rfl
     rw [g] at e ⊢;have l := wayTo_len _ _ _ _ _ _ e;have m := curve_len4 (if ig (trimL h C n) k ≤ (mvO (cg C n).moves (hg h.sets k).name).to then (mvO (cg C n).moves (hg h.sets k).name).to - ig (trimL h C n) k else ig (trimL h C n) k - (mvO (cg C n).moves (hg h.sets k).name).to) (mvO (cg C n).moves (hg h.sets k).name).rise (mvO (cg C n).moves (hg h.sets k).name).fall (topV (if ig (trimL h C n) k ≤ (mvO (cg C n).moves (hg h.sets k).name).to then (mvO (cg C n).moves (hg h.sets k).name).to - ig (trimL h C n) k else ig (trimL h C n) k - (mvO (cg C n).moves (hg h.sets k).name).to) (mvO (cg C n).moves (hg h.sets k).name));omega
   ·rw [pathTo_stay (.inl (Bool.eq_false_iff.2 b))]; omega
  ·rw [pathTo_err a (n + 1) (Nat.le_succ n)] at e; exact absurd e a
theorem pathP_err {h : HouseR} {C : List CueR} {S : List Int} {k n : Nat} (hn : n ≤ C.length) (e : (pathTo h C S k n).2 ≠ 0) : pathP h C S k = ([], (pathTo h C S k n).2) := by
 unfold pathP;rw [pathTo_err e _ hn, if_neg e]
theorem pathP_full {h : HouseR} {C : List CueR} {S : List Int} {k : Nat} (e : (pathTo h C S k C.length).2 = 0) (l : 200 < (pathTo h C S k C.length).1.length) : pathP h C S k = ([], 4) := by
 unfold pathP;rw [if_pos e, if_pos l]
theorem pathP_ok {h : HouseR} {C : List CueR} {S : List Int} {k : Nat} (e : (pathTo h C S k C.length).2 = 0) (l : ¬ 200 < (pathTo h C S k C.length).1.length) : pathP h C S k = pathTo h C S k C.length := by
 unfold pathP;rw [if_pos e, if_neg l]
end
section
open Go.RowKit Go.Shelf
def setFrom (w : World) (b : Nat) : Nat → List Value → World
 | _, [] => w
 | j, v :: vs => setFrom (w.setCell ⟨b, j, none⟩ v) b (j + 1) vs
theorem below_from {m b : Nat} {W : World} : ∀ (vs : List Value) (w : World) (j : Nat), Below m W w → m ≤ b → Below m W (setFrom w b j vs)
 | [], _, _, h, _ => h
 | v :: vs, _, j, h, hb => below_from vs _ (j + 1) (h.setCell (p := ⟨b, j, none⟩) hb v) hb
theorem far_from : ∀ (vs : List Value) (w : World) (b j i : Nat), i < j → (setFrom w b j vs).cell? ⟨b, i, none⟩ = w.cell? ⟨b, i, none⟩
 | [], _, _, _, _, _ => rfl
 | v :: vs, w, b, j, i, h => (far_from vs _ b (j + 1) i (by omega)).trans (World.cell?_setCell_other _ _ _ _ (by intro q; injection q with _ q; omega))
theorem read_from : ∀ (vs : List Value) (w : World) (b j : Nat), (∀ i, i < vs.length → (w.cell? ⟨b, j + i, none⟩).isSome = true) → ∀ i (h : i < vs.length), (setFrom w b j vs).cell? ⟨b, j + i, none⟩ = some vs[i]
 | [], _, _, _, _, i, h => absurd h (Nat.not_lt_zero _)
 | v :: vs, w, b, j, hs, i, h => by
  have h0 := hs 0 (by simp);obtain ⟨u, hu⟩ := Option.isSome_iff_exists.1 h0
  match i, h with
  | 0, _ => exact (far_from vs _ b (j + 1) (j + 0) (by omega)).trans (World.cell?_setCell_same _ _ _ hu)
  | i + 1, h =>
   have := read_from vs (w.setCell ⟨b, j, none⟩ v) b (j + 1) (fun k hk => by
    rw [World.cell?_setCell_other _ _ _ _ (by intro q; injection q with _ q; omega), show j + 1 + k = j + (k + 1) by omega];exact hs (k + 1) (by simpa using hk)) i (by simpa using h)
   rw [show j + (i + 1) = j + 1 + i by omega];exact this
structure PB (w : World) (b : Nat) (p : Pc) : Prop where
 c0 : w.cell? ⟨b, 0, none⟩ = some (.int .i64 p.f0)
 c1 : w.cell? ⟨b, 1, none⟩ = some (.int .i64 p.f1)
 c2 : w.cell? ⟨b, 2, none⟩ = some (.int .i64 p.a0)
 c3 : w.cell? ⟨b, 3, none⟩ = some (.int .i64 p.a1)
 c4 : w.cell? ⟨b, 4, none⟩ = some (.int .i64 p.b0)
 c5 : w.cell? ⟨b, 5, none⟩ = some (.int .i64 p.b1)
 c6 : w.cell? ⟨b, 6, none⟩ = some (.int .i64 p.c0)
 c7 : w.cell? ⟨b, 7, none⟩ = some (.int .i64 p.c1)
 free : ∀ i, w.frozen? ⟨b, i, none⟩ = false
theorem PB.lt {w : World} {b : Nat} {p : Pc} (h : PB w b p) : b < w.heap.size := wl h.c0
theorem PB.carry {w w' : World} {b : Nat} {p : Pc} (h : PB w b p) (hb : Below w.heap.size w w') : PB w' b p :=
 ⟨(hb.cell (p := ⟨b, 0, none⟩) h.lt).trans h.c0, (hb.cell (p := ⟨b, 1, none⟩) h.lt).trans h.c1, (hb.cell (p := ⟨b, 2, none⟩) h.lt).trans h.c2, (hb.cell (p := ⟨b, 3, none⟩) h.lt).trans h.c3, (hb.cell (p := ⟨b, 4, none⟩) h.lt).trans h.c4, (hb.cell (p := ⟨b, 5, none⟩) h.lt).trans h.c5, (hb.cell (p := ⟨b, 6, none⟩) h.lt).trans h.c6, (hb.cell (p := ⟨b, 7, none⟩) h.lt).trans h.c7, fun i => (hb.frozen (p := ⟨b, i, none⟩) h.lt).trans (h.free i)⟩
theorem PB.new (w : World) (p : Pc) (t : TypeId) : PB (w.alloc (.cells #[.int .i64 p.f0, .int .i64 p.f1, .int .i64 p.a0, .int .i64 p.a1, .int .i64 p.b0, .int .i64 p.b1, .int .i64 p.c0, .int .i64 p.c1] t)) w.heap.size p :=
 ⟨by simp, by simp, by simp, by simp, by simp, by simp, by simp, by simp, fun i => by simp⟩
theorem PB.set {w : World} {b j : Nat} {p q : Pc} (h : PB w b p) (v : Value) (hj : j < 8) (hs : (0 = j → v = .int .i64 q.f0) ∧ (¬ 0 = j → q.f0 = p.f0) ∧ (1 = j → v = .int .i64 q.f1) ∧ (¬ 1 = j → q.f1 = p.f1) ∧ (2 = j → v = .int .i64 q.a0) ∧ (¬ 2 = j → q.a0 = p.a0) ∧ (3 = j → v = .int .i64 q.a1) ∧ (¬ 3 = j → q.a1 = p.a1) ∧ (4 = j → v = .int .i64 q.b0) ∧ (¬ 4 = j → q.b0 = p.b0) ∧ (5 = j → v = .int .i64 q.b1) ∧ (¬ 5 = j → q.b1 = p.b1) ∧ (6 = j → v = .int .i64 q.c0) ∧ (¬ 6 = j → q.c0 = p.c0) ∧ (7 = j → v = .int .i64 q.c1) ∧ (¬ 7 = j → q.c1 = p.c1)) : PB (w.setCell ⟨b, j, none⟩ v) b q := by
 obtain ⟨y0, n0, y1, n1, y2, n2, y3, n3, y4, n4, y5, n5, y6, n6, y7, n7⟩ := hs;have same : ∀ k u, w.cell? ⟨b, k, none⟩ = some u → k = j → (w.setCell ⟨b, j, none⟩ v).cell? ⟨b, k, none⟩ = some v := fun k u hu e => by subst e; exact World.cell?_setCell_same _ _ _ hu
 have other : ∀ k, ¬ k = j → (w.setCell ⟨b, j, none⟩ v).cell? ⟨b, k, none⟩ = w.cell? ⟨b, k, none⟩ := fun k e => World.cell?_setCell_other _ _ _ _ (fun x => e (congrArg Addr.off x).symm);refine ⟨?_, ?_, ?_, ?_, ?_, ?_, ?_, ?_, fun i => by simpa using h.free i⟩
 ·by_cases e : 0 = j
  ·rw [same 0 _ h.c0 e, y0 e]
  ·rw [other 0 e, h.c0, n0 e]
 ·by_cases e : 1 = j
  ·rw [same 1 _ h.c1 e, y1 e]
  ·rw [other 1 e, h.c1, n1 e]
 ·by_cases e : 2 = j
  ·rw [same 2 _ h.c2 e, y2 e]
  ·rw [other 2 e, h.c2, n2 e]
 ·by_cases e : 3 = j
  ·rw [same 3 _ h.c3 e, y3 e]
  ·rw [other 3 e, h.c3, n3 e]
 ·by_cases e : 4 = j
  ·rw [same 4 _ h.c4 e, y4 e]
  ·rw [other 4 e, h.c4, n4 e]
 ·by_cases e : 5 = j
  ·rw [same 5 _ h.c5 e, y5 e]
  ·rw [other 5 e, h.c5, n5 e]
 ·by_cases e : 6 = j
  ·rw [same 6 _ h.c6 e, y6 e]
  ·rw [other 6 e, h.c6, n6 e]
 ·by_cases e : 7 = j
  ·rw [same 7 _ h.c7 e, y7 e]
  ·rw [other 7 e, h.c7, n7 e]
theorem PB.far {w : World} {b b2 j : Nat} {p : Pc} (h : PB w b p) (hne : b ≠ b2) (v : Value) : PB (w.setCell ⟨b2, j, none⟩ v) b p :=
 ⟨(World.cell?_setCell_other _ _ _ _ (fun x => hne (congrArg Addr.block x).symm)).trans h.c0, (World.cell?_setCell_other _ _ _ _ (fun x => hne (congrArg Addr.block x).symm)).trans h.c1, (World.cell?_setCell_other _ _ _ _ (fun x => hne (congrArg Addr.block x).symm)).trans h.c2, (World.cell?_setCell_other _ _ _ _ (fun x => hne (congrArg Addr.block x).symm)).trans h.c3, (World.cell?_setCell_other _ _ _ _ (fun x => hne (congrArg Addr.block x).symm)).trans h.c4, (World.cell?_setCell_other _ _ _ _ (fun x => hne (congrArg Addr.block x).symm)).trans h.c5, (World.cell?_setCell_other _ _ _ _ (fun x => hne (congrArg Addr.block x).symm)).trans h.c6, (World.cell?_setCell_other _ _ _ _ (fun x => hne (congrArg Addr.block x).symm)).trans h.c7, fun i => by simpa using h.free i⟩
theorem pc_from (q : Pc) {w : World} {b : Nat} {p : Pc} (z : PB w b p) : (setFrom w b 0 [.int .i64 q.f0, .int .i64 q.f1, .int .i64 q.a0, .int .i64 q.a1, .int .i64 q.b0, .int .i64 q.b1, .int .i64 q.c0, .int .i64 q.c1]).cell? ⟨b, 0, none⟩ = some (.int .i64 q.f0) ∧ (setFrom w b 0 [.int .i64 q.f0, .int .i64 q.f1, .int .i64 q.a0, .int .i64 q.a1, .int .i64 q.b0, .int .i64 q.b1, .int .i64 q.c0, .int .i64 q.c1]).cell? ⟨b, 1, none⟩ = some (.int .i64 q.f1) ∧ (setFrom w b 0 [.int .i64 q.f0, .int .i64 q.f1, .int .i64 q.a0, .int .i64 q.a1, .int .i64 q.b0, .int .i64 q.b1, .int .i64 q.c0, .int .i64 q.c1]).cell? ⟨b, 2, none⟩ = some (.int .i64 q.a0) ∧ (setFrom w b 0 [.int .i64 q.f0, .int .i64 q.f1, .int .i64 q.a0, .int .i64 q.a1, .int .i64 q.b0, .int .i64 q.b1, .int .i64 q.c0, .int .i64 q.c1]).cell? ⟨b, 3, none⟩ = some (.int .i64 q.a1) ∧ (setFrom w b 0 [.int .i64 q.f0, .int .i64 q.f1, .int .i64 q.a0, .int .i64 q.a1, .int .i64 q.b0, .int .i64 q.b1, .int .i64 q.c0, .int .i64 q.c1]).cell? ⟨b, 4, none⟩ = some (.int .i64 q.b0) ∧ (setFrom w b 0 [.int .i64 q.f0, .int .i64 q.f1, .int .i64 q.a0, .int .i64 q.a1, .int .i64 q.b0, .int .i64 q.b1, .int .i64 q.c0, .int .i64 q.c1]).cell? ⟨b, 5, none⟩ = some (.int .i64 q.b1) ∧ (setFrom w b 0 [.int .i64 q.f0, .int .i64 q.f1, .int .i64 q.a0, .int .i64 q.a1, .int .i64 q.b0, .int .i64 q.b1, .int .i64 q.c0, .int .i64 q.c1]).cell? ⟨b, 6, none⟩ = some (.int .i64 q.c0) ∧ (setFrom w b 0 [.int .i64 q.f0, .int .i64 q.f1, .int .i64 q.a0, .int .i64 q.a1, .int .i64 q.b0, .int .i64 q.b1, .int .i64 q.c0, .int .i64 q.c1]).cell? ⟨b, 7, none⟩ = some (.int .i64 q.c1) := by
 have h : ∀ i, i < ([.int .i64 q.f0, .int .i64 q.f1, .int .i64 q.a0, .int .i64 q.a1, .int .i64 q.b0, .int .i64 q.b1, .int .i64 q.c0, .int .i64 q.c1] : List Value).length → (w.cell? ⟨b, 0 + i, none⟩).isSome = true := by
  intro i hi;have hi' : i < 8 := hi;rw [Nat.zero_add];obtain rfl | rfl | rfl | rfl | rfl | rfl | rfl | rfl : i = 0 ∨ i = 1 ∨ i = 2 ∨ i = 3 ∨ i = 4 ∨ i = 5 ∨ i = 6 ∨ i = 7 := by omega
  ·rw [z.c0]; rfl
  ·rw [z.c1]; rfl
  ·rw [z.c2]; rfl
  ·rw [z.c3]; rfl
  ·rw [z.c4]; rfl
  ·rw [z.c5]; rfl
  ·rw [z.c6]; rfl
  ·rw [z.c7]; rfl
 have r := read_from ([.int .i64 q.f0, .int .i64 q.f1, .int .i64 q.a0, .int .i64 q.a1, .int .i64 q.b0, .int .i64 q.b1, .int .i64 q.c0, .int .i64 q.c1] : List Value) w b 0 h;exact ⟨r 0 (by simp), r 1 (by simp), r 2 (by simp), r 3 (by simp), r 4 (by simp), r 5 (by simp), r 6 (by simp), r 7 (by simp)⟩
theorem PB.putA {w : World} {b : Nat} {p : Pc} (h : PB w b p) (x y : Int) : PB ((w.setCell ⟨b, 2, none⟩ (.int .i64 x)).setCell ⟨b, 3, none⟩ (.int .i64 y)) b ⟨p.f0, p.f1, x, y, p.b0, p.b1, p.c0, p.c1⟩ :=
 (h.set (q := ⟨p.f0, p.f1, x, p.a1, p.b0, p.b1, p.c0, p.c1⟩) (.int .i64 x) (by decide) (by simp)).set (.int .i64 y) (by decide) (by simp)
structure HQ (n₀ : Nat) (W0 : World) (B : Nat) (w : World) : Prop where
 old : Below n₀ W0 w
 pb : ∃ q, PB w B q
 lo : n₀ ≤ B
theorem HQ.size {n₀ B : Nat} {W0 w : World} (h : HQ n₀ W0 B w) : n₀ ≤ w.heap.size := by
 obtain ⟨q, z⟩ := h.pb;have := z.lt;have := h.lo;omega
theorem HQ.next {n₀ B : Nat} {W0 w w' : World} (h : HQ n₀ W0 B w) (hb : Below w.heap.size w w') : HQ n₀ W0 B w' := ⟨h.old.trans (hb.mono h.size), by obtain ⟨q, z⟩ := h.pb; exact ⟨q, z.carry hb⟩, h.lo⟩
theorem HQ.putAt {n₀ B i j : Nat} {W0 w : World} {u v : Value} {q : Pc} (h : HQ n₀ W0 B w) (z : PB ((w.setCell ⟨B, i, none⟩ u).setCell ⟨B, j, none⟩ v) B q) : HQ n₀ W0 B ((w.setCell ⟨B, i, none⟩ u).setCell ⟨B, j, none⟩ v) :=
 ⟨(h.old.setCell (show n₀ ≤ (⟨B, i, none⟩ : Addr).block from h.lo) _).setCell (show n₀ ≤ (⟨B, j, none⟩ : Addr).block from h.lo) _, ⟨q, z⟩, h.lo⟩
theorem PB.putF {w : World} {b : Nat} {p : Pc} (h : PB w b p) (x y : Int) : PB ((w.setCell ⟨b, 0, none⟩ (.int .i64 x)).setCell ⟨b, 1, none⟩ (.int .i64 y)) b ⟨x, y, p.a0, p.a1, p.b0, p.b1, p.c0, p.c1⟩ :=
 (h.set (q := ⟨x, p.f1, p.a0, p.a1, p.b0, p.b1, p.c0, p.c1⟩) (.int .i64 x) (by decide) (by simp)).set (.int .i64 y) (by decide) (by simp)
theorem PB.putB0 {w : World} {b : Nat} {p : Pc} (h : PB w b p) (x : Int) : PB (w.setCell ⟨b, 4, none⟩ (.int .i64 x)) b ⟨p.f0, p.f1, p.a0, p.a1, x, p.b1, p.c0, p.c1⟩ := h.set (.int .i64 x) (by decide) (by simp)
theorem PB.putC0 {w : World} {b : Nat} {p : Pc} (h : PB w b p) (x : Int) : PB (w.setCell ⟨b, 6, none⟩ (.int .i64 x)) b ⟨p.f0, p.f1, p.a0, p.a1, p.b0, p.b1, x, p.c1⟩ := h.set (.int .i64 x) (by decide) (by simp)
structure HP (n₀ : Nat) (W0 : World) (B C : Nat) (w : World) : Prop where
 h : HQ n₀ W0 B w
 r : ∃ q, PB w C q
 ne : C ≠ B
theorem HP.next {n₀ B C : Nat} {W0 w w' : World} (h : HP n₀ W0 B C w) (hb : Below w.heap.size w w') : HP n₀ W0 B C w' := ⟨h.h.next hb, by obtain ⟨q, z⟩ := h.r; exact ⟨q, z.carry hb⟩, h.ne⟩
theorem HP.putAt {n₀ B C i j : Nat} {W0 w : World} {u v : Value} {q : Pc} (h : HP n₀ W0 B C w) (z : PB ((w.setCell ⟨B, i, none⟩ u).setCell ⟨B, j, none⟩ v) B q) : HP n₀ W0 B C ((w.setCell ⟨B, i, none⟩ u).setCell ⟨B, j, none⟩ v) :=
 ⟨h.h.putAt z, by obtain ⟨q, z⟩ := h.r; exact ⟨q, (z.far h.ne u).far h.ne v⟩, h.ne⟩
theorem make_zero (d : Int) (d0 : 1 ≤ d) (d1 : d ≤ 9223372036854775807) (w : World) :
  Calls Tryz.prog 53 #[.int .i64 0, .int .i64 d] w fun e w' => e = .returned (.tuple #[.agg #[.int .i64 0, .int .i64 1], .int .i64 0]) ∧ Below w.heap.size w w' := by
 have Z1 : Hid (∀ w : World, Calls Tryz.prog 89 #[.int .i64 0] w fun e w' => e = .returned (.int .u64 0) ∧ w = w') := lh fun w => by have := size_any 0 (by decide) (by decide) w; simpa using this
 have Z2 : Hid (∀ w : World, Calls Tryz.prog 89 #[.int .i64 d] w fun e w' => e = .returned (.int .u64 d) ∧ w = w') := lh fun w => by have := size_any d (by omega) (by omega) w; rwa [show (d.natAbs : Int) = d by omega] at this
 have HG : Hid (∀ w : World, Calls Tryz.prog 90 #[.int .u64 0, .int .u64 d] w fun e w' => e = .returned (.int .u64 d) ∧ ∃ m, w' = w.drewN m) := lh fun w => by
  have := gcd_any 0 d (by decide) (by decide) (by omega) (by omega) w
  rwa [show ((Int.gcd 0 d : Nat) : Int) = d by simp; omega] at this
 have HS : Hid (∀ w : World, Calls Tryz.prog 91 #[.bool false, .int .u64 (IntKind.u64.wrap 0), .int .u64 (IntKind.u64.wrap 1)] w fun e w' => e = .returned (.tuple #[.agg #[.int .i64 0, .int .i64 1], .int .i64 0]) ∧ Below w.heap.size w w') := lh fun w => by rw [show IntKind.u64.wrap 0 = 0 from rfl, show IntKind.u64.wrap 1 = 1 from rfl]; exact signed_any false 0 1 (by decide) (by decide) w
 have z1 : (d == 0) = false := by simp; omega
 have z2 : ¬ d = 0 := by omega
 have z3 : IntKind.u64.wrap (d.tdiv d) = 1 := by rw [Int.tdiv_self z2]; rfl
 have z4 : IntKind.u64.wrap ((0 : Int).tdiv d) = 0 := by rw [Int.zero_tdiv]; rfl
 go_enter Tryz.func53, Tryz.ntmps53
 go_upto_region 5 with (first
  | (go_at_call 89; (with_reducible refine (Z1.out _).mono ?_); rintro e w' ⟨rfl, rfl⟩)
  | (go_at_call 89; (with_reducible refine (Z2.out _).mono ?_); rintro e w' ⟨rfl, rfl⟩)
  | (go_at_call 90; (with_reducible refine (HG.out _).mono ?_); rintro e w' ⟨rfl, m, rfl⟩))
 have HF : FI ((w.alloc (.cells #[.int .i64 0, .int .i64 0] 49)).drewN m) w.heap.size 0 0 := ⟨by simp, by simp, by simp, by simp, by simp⟩;have hW := below_drewN (below_new w (.cells #[.int .i64 0, .int .i64 0] 49)) m;generalize (w.alloc (.cells #[.int .i64 0, .int .i64 0] 49)).drewN m = W0 at *;refine wp_region_held_drew (S := fun w' => Below w.heap.size w w') (by kernel_rfl) (hW.drew) (fun hHeld => ?_);refine tkB 0 ?_;simp only [Act.put, s_1, s_2, s_3, s_4, s_6];refine tkB 1 ?_;simp only [Act.put, s_1, s_2, s_3, s_4, s_5, s_6];refine tkB 2 ?_;simp only [Act.put, s_1, s_2, s_3, s_4, s_5, s_6];refine tkS 3 ?_;simp only [Act.put, s_1, s_2, s_3, s_4, s_5, s_6];refine tkS 4 ?_;simp only [Act.put, s_1, s_2, s_3, s_4, s_5, s_6];refine tkS 5 ?_;simp only [Act.put, s_1, s_2, s_3, s_4, s_5, s_6];refine tkS 6 ?_;simp only [Act.put, s_1, s_2, s_3, s_4, s_5, s_6];refine tkS 7 ?_;simp only [Act.put, s_1, s_2, s_3, s_4, s_5, s_6];refine tkB 8 ?_;simp only [Act.put, s_1, s_2, s_3, s_4, s_5, s_6];refine tkB 9 ?_;simp only [Act.put, s_1, s_2, s_3, s_4, s_5, s_6];refine tkB 10 ?_;simp only [Act.put, s_1, s_2, s_3, s_4, s_5, s_6];refine tkB 11 ?_;simp only [Act.put, s_1, s_2, s_3, s_4, s_5, s_6];refine tkB 12 ?_;simp only [Act.put, s_1, s_2, s_3, s_4, s_5, s_6];refine tkB 13 ?_;simp only [Act.put, s_1, s_2, s_3, s_4, s_5, s_6];refine tkB 14 ?_;simp only [Act.put, s_1, s_2, s_3, s_4, s_5, s_6];refine r1 15 (fun K hK => ?_)
 try simp only [s_4, s_5, s_6]
 go_simp
 (go_at_call 91; go_split_ands; (with_reducible refine (HS.out _).mono ?_); rintro e w2 ⟨rfl, hb2⟩; have hB2 := hW.drew.trans (hb2.mono hW.drew.size); obtain ⟨q0, q1, q2, q3, q4⟩ := (show FI W0.drew w.heap.size 0 0 from HF).carry hb2)
 go_wp2_with fail
 refine hK.out _ _ (hB2) (fun hHeld => ?_);clear hK K
 try simp only [Act.put, s_1, s_2, s_3, s_4, s_5, s_6]
 refine tkB 16 ?_;simp only [Act.put, s_1, s_2, s_3, s_4, s_5, s_6];refine tkB 17 ?_;simp only [Act.put, s_1, s_2, s_3, s_4, s_5, s_6];refine r1 18 (fun K hK => ?_)
 try simp only [s_4, s_5, s_6]
 go_simp
 refine hK.out _ _ (below_s _ _ (below_s _ _ hB2 (Nat.le_refl _)) (Nat.le_refl _)) (fun hHeld => ?_);clear hK K
 try simp only [Act.put, s_1, s_2, s_3, s_4, s_5, s_6]
 refine tkB 19 ?_;simp only [Act.put, s_1, s_2, s_3, s_4, s_5, s_6];refine wpAnyH_done (by kernel_rfl) ?_ _
 go_wp2_with fail
 have l0 := (two_cells (v0 := .int .i64 0) (v1 := .int .i64 1) q0 q1).1;have l1 := (two_cells (v0 := .int .i64 0) (v1 := .int .i64 1) q0 q1).2;refine bodyPost_ret (v := .tuple #[.agg #[.int .i64 0, .int .i64 1], .int .i64 0]) (by simp [results, Tryz.results53, go_sem, l0, l1]) rfl ⟨rfl, ?_⟩;exact below_s _ _ (below_s _ _ hB2 (Nat.le_refl _)) (Nat.le_refl _)
end
end Go.Proofs.YtebofaenlhhkaaaGreat
