/-
  THE WALK of the law ProfileTimes.
-/
import Derived.Test.YtlgpolfbilkmbaaRKnots
import Derived.Test.YtlgpolfbilkmbaaLawTops
namespace Go.Proofs.Ytlgpolfbilkmbaa
open Go.RowKit Go.Shelf

set_option maxRecDepth 100000 in
set_option maxHeartbeats 16000000 in
theorem lawtimes_a (d : Int) (m : Mv) (t : Int) (ht : givenP d m = 0 → IsTop d m.spd m.rise m.fall t) (hl : (m.name.size : Int) ≤ 100) (hv : validM m = false) (w : World) : Calls Try.prog 7 #[.int .i64 d, .agg #[.string m.name, .int .i64 m.to, .int .i64 m.spd, .int .i64 m.rise, .int .i64 m.fall]] w fun e w' => e = .returned (.bool true) ∧ Below w.heap.size w w' := by
  have hl' : decide (100 < (m.name.size : Int)) = false := decide_eq_false (by omega)
  have HK := Lib.hid (Knots_any d m t ht)
  have HTime := Lib.hid (Time_any d m t ht)
  have hgg : givenP d m = 1 := by unfold givenP; rw [hv]; rfl
  have HG := Lib.hid hgg
  have HN : Hid (¬ givenP d m = 0) := Lib.hid (by rw [hgg]; decide)
  have HV := Lib.hid hv
  have HS : Hid (∀ w : World, Calls Try.prog 24 #[.agg #[.string m.name, .int .i64 m.to, .int .i64 m.spd, .int .i64 m.rise, .int .i64 m.fall]] w fun e w' => e = .returned (.tuple #[.agg #[.int .i64 0, .int .i64 0], .int .i64 1]) ∧ Below w.heap.size w w') := Lib.hid fun w => by
    have h := stop_any m w
    rw [hv] at h
    exact h
  have HM := Lib.hid (MvAt.new w m 23)
  have hW0 := below_new w (.cells #[.string m.name, .int .i64 m.to, .int .i64 m.spd, .int .i64 m.rise, .int .i64 m.fall] 23)
  obtain ⟨P, hP⟩ : ∃ P, timeP d m t = P := ⟨_, rfl⟩
  rw [hP, hgg] at HTime
  have hPP : P = (0, 0) := by rw [← hP]; unfold timeP; rw [if_neg HN.out]
  subst hPP
  clear hgg ht hl hv hP
  go_enter Try.func7, Try.ntmps7
  go_upto_region 1 with (fail)
  obtain ⟨Bm, hBm⟩ : ∃ b, w.heap.size = b := ⟨_, rfl⟩
  rw [hBm] at HM
  simp only [hBm]
  generalize w.alloc (.cells #[.string m.name, .int .i64 m.to, .int .i64 m.spd, .int .i64 m.rise, .int .i64 m.fall] 23) = W0 at *
  go_upto_region 6 with (first
    | (go_at_call 10; (with_reducible refine (awake_any _).mono ?_); rintro e w1 ⟨rfl, hB1⟩; obtain ⟨k0, k1, k2, k3, k4⟩ := HM.out.carry hB1)
    | (go_at_call 20; (with_reducible refine (HTime.out _).mono ?_); rintro e w2 ⟨rfl, hb2⟩))
  have b2 : Below W0.heap.size W0 (w2.alloc (.cells #[.int .i64 0, .int .i64 0] 39)) := below_a _ (held_next hB1 hb2)
  have h5 := C2.new w2 (.int .i64 0) (.int .i64 0) 39
  have HM := Lib.hid (HM.out.carry b2)
  have hW2 := hW0.trans (b2.mono hW0.size)
  clear hB1 hb2 b2 hW0 k0 k1 k2 k3 k4
  generalize w2.alloc (.cells #[.int .i64 0, .int .i64 0] 39) = W2 at *
  generalize w2.heap.size = B5 at *
  obtain ⟨k0, k1, k2, k3, k4⟩ := HM.out
  go_upto_region 7 with (go_at_call 22; (with_reducible refine (HK.out _).mono ?_); rintro e w3 ⟨hv, hb3⟩; obtain ⟨v, rfl, hrow⟩ := hv.out; rw [HG.out]; obtain rfl := hrow.2 HN.out; clear hrow hv)
  have HM := Lib.hid (HM.out.carry hb3)
  have h5 := h5.carry hb3
  have hW3 := hW2.trans (hb3.mono hW2.size)
  clear hb3 hW2 k0 k1 k2 k3 k4
  obtain ⟨k0, k1, k2, k3, k4⟩ := HM.out
  go_upto_region 8 with (go_at_call 24; (with_reducible refine (HS.out _).mono ?_); rintro e w4 ⟨rfl, hb4⟩)
  have b4 : Below w3.heap.size w3 (w4.alloc (.cells #[.int .i64 0, .int .i64 0] 39)) := below_a _ hb4
  have h9 := C2.new w4 (.int .i64 0) (.int .i64 0) 39
  have HM := Lib.hid (HM.out.carry b4)
  have h5 := h5.carry b4
  
  have hW4 := hW3.trans (b4.mono hW3.size)
  clear hb4 hW3 b4 k0 k1 k2 k3 k4
  generalize w4.alloc (.cells #[.int .i64 0, .int .i64 0] 39) = W4 at *
  generalize w4.heap.size = B9 at *
  have H5 := Lib.hid h5
  have H9 := Lib.hid h9
  clear h5 h9
  obtain ⟨k0, k1, k2, k3, k4⟩ := HM.out
  go_upto_region 9 with (go_at_call 13; (with_reducible refine (refvalid_anyM m _).mono ?_); rintro e w5 ⟨rfl, hb5⟩; rw [HV.out])
  obtain ⟨l0, l1⟩ := H5.out.carry hb5
  obtain ⟨l2, l3⟩ := H9.out.carry hb5
  go_wp2_with fail
  go_ret
  exact ⟨rfl, hW4.trans (hb5.mono hW4.size)⟩

set_option maxRecDepth 100000 in
set_option maxHeartbeats 16000000 in
theorem lawtimes_b (d : Int) (m : Mv) (t : Int) (ht : givenP d m = 0 → IsTop d m.spd m.rise m.fall t) (hl : (m.name.size : Int) ≤ 100) (hv : validM m = true) (hgg : givenP d m = 2) (w : World) : Calls Try.prog 7 #[.int .i64 d, .agg #[.string m.name, .int .i64 m.to, .int .i64 m.spd, .int .i64 m.rise, .int .i64 m.fall]] w fun e w' => e = .returned (.bool true) ∧ Below w.heap.size w w' := by
  have hl' : decide (100 < (m.name.size : Int)) = false := decide_eq_false (by omega)
  have HK := Lib.hid (Knots_any d m t ht)
  have HTime := Lib.hid (Time_any d m t ht)
  have HG := Lib.hid hgg
  have HN : Hid (¬ givenP d m = 0) := Lib.hid (by rw [hgg]; decide)
  have HS : Hid (∀ w : World, Calls Try.prog 24 #[.agg #[.string m.name, .int .i64 m.to, .int .i64 m.spd, .int .i64 m.rise, .int .i64 m.fall]] w fun e w' => e = .returned (.tuple #[.agg #[.int .i64 (stopN m), .int .i64 (stopD m)], .int .i64 0]) ∧ Below w.heap.size w w') := Lib.hid fun w => by
    have h := stop_any m w
    rw [hv] at h
    exact h
  have RS := Lib.hid (rstop_any m hv)
  have HV := Lib.hid hv
  have HM := Lib.hid (MvAt.new w m 23)
  have hW0 := below_new w (.cells #[.string m.name, .int .i64 m.to, .int .i64 m.spd, .int .i64 m.rise, .int .i64 m.fall] 23)
  obtain ⟨P, hP⟩ : ∃ P, timeP d m t = P := ⟨_, rfl⟩
  rw [hP, hgg] at HTime
  have hPP : P = (0, 0) := by rw [← hP]; unfold timeP; rw [if_neg HN.out]
  subst hPP
  clear hgg ht hl hv hP
  go_enter Try.func7, Try.ntmps7
  go_upto_region 1 with (fail)
  obtain ⟨Bm, hBm⟩ : ∃ b, w.heap.size = b := ⟨_, rfl⟩
  rw [hBm] at HM
  simp only [hBm]
  generalize w.alloc (.cells #[.string m.name, .int .i64 m.to, .int .i64 m.spd, .int .i64 m.rise, .int .i64 m.fall] 23) = W0 at *
  go_upto_region 6 with (first
    | (go_at_call 10; (with_reducible refine (awake_any _).mono ?_); rintro e w1 ⟨rfl, hB1⟩; obtain ⟨k0, k1, k2, k3, k4⟩ := HM.out.carry hB1)
    | (go_at_call 20; (with_reducible refine (HTime.out _).mono ?_); rintro e w2 ⟨rfl, hb2⟩))
  have b2 : Below W0.heap.size W0 (w2.alloc (.cells #[.int .i64 0, .int .i64 0] 39)) := below_a _ (held_next hB1 hb2)
  have h5 := C2.new w2 (.int .i64 0) (.int .i64 0) 39
  have HM := Lib.hid (HM.out.carry b2)
  have hW2 := hW0.trans (b2.mono hW0.size)
  clear hB1 hb2 b2 hW0 k0 k1 k2 k3 k4
  generalize w2.alloc (.cells #[.int .i64 0, .int .i64 0] 39) = W2 at *
  generalize w2.heap.size = B5 at *
  obtain ⟨k0, k1, k2, k3, k4⟩ := HM.out
  go_upto_region 7 with (go_at_call 22; (with_reducible refine (HK.out _).mono ?_); rintro e w3 ⟨hv, hb3⟩; obtain ⟨v, rfl, hrow⟩ := hv.out; rw [HG.out]; obtain rfl := hrow.2 HN.out; clear hrow hv)
  have HM := Lib.hid (HM.out.carry hb3)
  have h5 := h5.carry hb3
  have hW3 := hW2.trans (hb3.mono hW2.size)
  clear hb3 hW2 k0 k1 k2 k3 k4
  obtain ⟨k0, k1, k2, k3, k4⟩ := HM.out
  go_upto_region 8 with (go_at_call 24; (with_reducible refine (HS.out _).mono ?_); rintro e w4 ⟨rfl, hb4⟩)
  have b4 : Below w3.heap.size w3 (w4.alloc (.cells #[.int .i64 (stopN m), .int .i64 (stopD m)] 39)) := below_a _ hb4
  have h9 := C2.new w4 (.int .i64 (stopN m)) (.int .i64 (stopD m)) 39
  have HM := Lib.hid (HM.out.carry b4)
  have h5 := h5.carry b4
  
  have hW4 := hW3.trans (b4.mono hW3.size)
  clear hb4 hW3 b4 k0 k1 k2 k3 k4
  generalize w4.alloc (.cells #[.int .i64 (stopN m), .int .i64 (stopD m)] 39) = W4 at *
  generalize w4.heap.size = B9 at *
  have H5 := Lib.hid h5
  have H9 := Lib.hid h9
  clear h5 h9
  obtain ⟨k0, k1, k2, k3, k4⟩ := HM.out
  go_upto_region 10 with (go_at_call 13; (with_reducible refine (refvalid_anyM m _).mono ?_); rintro e w5 ⟨rfl, hb5⟩; rw [HV.out])
  have HM := Lib.hid (HM.out.carry hb5)
  have H5 := Lib.hid (H5.out.carry hb5)
  have H9 := Lib.hid (H9.out.carry hb5)
  
  have hW5 := hW4.trans (hb5.mono hW4.size)
  clear hb5 hW4 k0 k1 k2 k3 k4
  obtain ⟨W4, rfl⟩ : ∃ W : World, W = w5 := ⟨_, rfl⟩
  have HS10 : Hid (∀ w', Below W4.heap.size W4 w' → Below W4.heap.size W4 w' ∧ w'.cell? ⟨Bm, 0, none⟩ = some (.string m.name) ∧ w'.cell? ⟨Bm, 1, none⟩ = some (.int .i64 m.to) ∧ w'.cell? ⟨Bm, 2, none⟩ = some (.int .i64 m.spd) ∧ w'.cell? ⟨Bm, 3, none⟩ = some (.int .i64 m.rise) ∧ w'.cell? ⟨Bm, 4, none⟩ = some (.int .i64 m.fall) ∧ w'.cell? ⟨B9, 0, none⟩ = some (.int .i64 (stopN m)) ∧ w'.cell? ⟨B9, 1, none⟩ = some (.int .i64 (stopD m))) := Lib.hid fun w' h => ⟨h, (HM.out.carry h).1, (HM.out.carry h).2.1, (HM.out.carry h).2.2.1, (HM.out.carry h).2.2.2.1, (HM.out.carry h).2.2.2.2, (H9.out.carry h).1, (H9.out.carry h).2⟩
  have hbd := (Below.refl W4.heap.size W4).drew
  go_region_held3 (fun w' => Below W4.heap.size W4 w' ∧ w'.cell? ⟨Bm, 0, none⟩ = some (.string m.name) ∧ w'.cell? ⟨Bm, 1, none⟩ = some (.int .i64 m.to) ∧ w'.cell? ⟨Bm, 2, none⟩ = some (.int .i64 m.spd) ∧ w'.cell? ⟨Bm, 3, none⟩ = some (.int .i64 m.rise) ∧ w'.cell? ⟨Bm, 4, none⟩ = some (.int .i64 m.fall) ∧ w'.cell? ⟨B9, 0, none⟩ = some (.int .i64 (stopN m)) ∧ w'.cell? ⟨B9, 1, none⟩ = some (.int .i64 (stopD m)))
    (first | (with_reducible exact HS10.out _ hbd) | exact HS10.out _ hx6)
    (first
      | (go_at_call 25; go_split_ands; (with_reducible refine (RS.out _).mono ?_); rintro e w6 ⟨rfl, hb6⟩; have hx6 := hbd.trans hb6))
  have HM := Lib.hid (HM.out.carry hx6)
  have H5 := Lib.hid (H5.out.carry hx6)
  
  have hW6 := hW5.trans (hx6.mono hW5.size)
  clear hb6 hW5 hbd HS10 hx6
  obtain ⟨k0, k1, k2, k3, k4⟩ := HM.out
  go_upto_region 13 with (go_at_call 14; (with_reducible refine (refgiven_any d m _).mono ?_); rintro e w7 ⟨rfl, hb7⟩; rw [HG.out])
  obtain ⟨l0, l1⟩ := H5.out.carry hb7
  go_wp2_with fail
  go_ret
  exact ⟨rfl, hW6.trans (hb7.mono hW6.size)⟩

set_option maxRecDepth 100000 in
set_option maxHeartbeats 16000000 in
theorem lawtimes_c (d : Int) (m : Mv) (t : Int) (ht : givenP d m = 0 → IsTop d m.spd m.rise m.fall t) (hl : (m.name.size : Int) ≤ 100) (hv : validM m = true) (hgg : givenP d m = 0) (w : World) : Calls Try.prog 7 #[.int .i64 d, .agg #[.string m.name, .int .i64 m.to, .int .i64 m.spd, .int .i64 m.rise, .int .i64 m.fall]] w fun e w' => e = .returned (.bool true) ∧ Below w.heap.size w w' := by
  have hl' : decide (100 < (m.name.size : Int)) = false := decide_eq_false (by omega)
  have HK := Lib.hid (Knots_any d m t ht)
  have HTime := Lib.hid (Time_any d m t ht)
  have HG := Lib.hid hgg
  have HS : Hid (∀ w : World, Calls Try.prog 24 #[.agg #[.string m.name, .int .i64 m.to, .int .i64 m.spd, .int .i64 m.rise, .int .i64 m.fall]] w fun e w' => e = .returned (.tuple #[.agg #[.int .i64 (stopN m), .int .i64 (stopD m)], .int .i64 0]) ∧ Below w.heap.size w w') := Lib.hid fun w => by
    have h := stop_any m w
    rw [hv] at h
    exact h
  have RS := Lib.hid (rstop_any m hv)
  have HV := Lib.hid hv
  have RT := Lib.hid (rtime_any d m t hgg (ht hgg))
  have RK := Lib.hid (rknots_any d m t hgg (ht hgg))
  have hkl : (knotsL d m.rise m.fall t).length ≤ 4 := by unfold knotsL; rw [knTo_len]; exact (curveL_len d m.rise m.fall t).2
  obtain ⟨L, hL⟩ : ∃ L, knotsL d m.rise m.fall t = L := ⟨_, rfl⟩
  have HL := Lib.hid hL
  rw [hL] at RK hkl
  clear hL
  have HM := Lib.hid (MvAt.new w m 23)
  have hW0 := below_new w (.cells #[.string m.name, .int .i64 m.to, .int .i64 m.spd, .int .i64 m.rise, .int .i64 m.fall] 23)
  obtain ⟨P, hP⟩ : ∃ P, timeP d m t = P := ⟨_, rfl⟩
  rw [hP, hgg] at HTime
  rw [hP] at RT
  clear hgg ht hl hv hP
  go_enter Try.func7, Try.ntmps7
  go_upto_region 1 with (fail)
  obtain ⟨Bm, hBm⟩ : ∃ b, w.heap.size = b := ⟨_, rfl⟩
  rw [hBm] at HM
  simp only [hBm]
  generalize w.alloc (.cells #[.string m.name, .int .i64 m.to, .int .i64 m.spd, .int .i64 m.rise, .int .i64 m.fall] 23) = W0 at *
  go_upto_region 6 with (first
    | (go_at_call 10; (with_reducible refine (awake_any _).mono ?_); rintro e w1 ⟨rfl, hB1⟩; obtain ⟨k0, k1, k2, k3, k4⟩ := HM.out.carry hB1)
    | (go_at_call 20; (with_reducible refine (HTime.out _).mono ?_); rintro e w2 ⟨rfl, hb2⟩))
  have b2 : Below W0.heap.size W0 (w2.alloc (.cells #[.int .i64 P.1, .int .i64 P.2] 39)) := below_a _ (held_next hB1 hb2)
  have h5 := C2.new w2 (.int .i64 P.1) (.int .i64 P.2) 39
  have HM := Lib.hid (HM.out.carry b2)
  have hW2 := hW0.trans (b2.mono hW0.size)
  clear hB1 hb2 b2 hW0 k0 k1 k2 k3 k4
  generalize w2.alloc (.cells #[.int .i64 P.1, .int .i64 P.2] 39) = W2 at *
  generalize w2.heap.size = B5 at *
  obtain ⟨k0, k1, k2, k3, k4⟩ := HM.out
  go_upto_region 7 with (go_at_call 22; (with_reducible refine (HK.out _).mono ?_); rintro e w3 ⟨hv, hb3⟩; obtain ⟨v, rfl, hrow⟩ := hv.out; rw [HG.out]; have hr1 := hrow.1 HG.out; rw [HL.out] at hr1; obtain ⟨pa, pcap, rfl, _, _, _, hPr⟩ := fr_of_row hr1; have HP := Lib.hid hPr; clear hPr hr1; clear hrow hv)
  have HM := Lib.hid (HM.out.carry hb3)
  have h5 := h5.carry hb3
  have hW3 := hW2.trans (hb3.mono hW2.size)
  clear hb3 hW2 k0 k1 k2 k3 k4
  obtain ⟨k0, k1, k2, k3, k4⟩ := HM.out
  go_upto_region 8 with (go_at_call 24; (with_reducible refine (HS.out _).mono ?_); rintro e w4 ⟨rfl, hb4⟩)
  have b4 : Below w3.heap.size w3 (w4.alloc (.cells #[.int .i64 (stopN m), .int .i64 (stopD m)] 39)) := below_a _ hb4
  have h9 := C2.new w4 (.int .i64 (stopN m)) (.int .i64 (stopD m)) 39
  have HM := Lib.hid (HM.out.carry b4)
  have h5 := h5.carry b4
  have HP := Lib.hid (HP.out.grow b4)
  have hW4 := hW3.trans (b4.mono hW3.size)
  clear hb4 hW3 b4 k0 k1 k2 k3 k4
  generalize w4.alloc (.cells #[.int .i64 (stopN m), .int .i64 (stopD m)] 39) = W4 at *
  generalize w4.heap.size = B9 at *
  have H5 := Lib.hid h5
  have H9 := Lib.hid h9
  clear h5 h9
  obtain ⟨k0, k1, k2, k3, k4⟩ := HM.out
  go_upto_region 10 with (go_at_call 13; (with_reducible refine (refvalid_anyM m _).mono ?_); rintro e w5 ⟨rfl, hb5⟩; rw [HV.out])
  have HM := Lib.hid (HM.out.carry hb5)
  have H5 := Lib.hid (H5.out.carry hb5)
  have H9 := Lib.hid (H9.out.carry hb5)
  have HP := Lib.hid (HP.out.grow hb5)
  have hW5 := hW4.trans (hb5.mono hW4.size)
  clear hb5 hW4 k0 k1 k2 k3 k4
  obtain ⟨W4, rfl⟩ : ∃ W : World, W = w5 := ⟨_, rfl⟩
  have HS10 : Hid (∀ w', Below W4.heap.size W4 w' → Below W4.heap.size W4 w' ∧ w'.cell? ⟨Bm, 0, none⟩ = some (.string m.name) ∧ w'.cell? ⟨Bm, 1, none⟩ = some (.int .i64 m.to) ∧ w'.cell? ⟨Bm, 2, none⟩ = some (.int .i64 m.spd) ∧ w'.cell? ⟨Bm, 3, none⟩ = some (.int .i64 m.rise) ∧ w'.cell? ⟨Bm, 4, none⟩ = some (.int .i64 m.fall) ∧ w'.cell? ⟨B9, 0, none⟩ = some (.int .i64 (stopN m)) ∧ w'.cell? ⟨B9, 1, none⟩ = some (.int .i64 (stopD m))) := Lib.hid fun w' h => ⟨h, (HM.out.carry h).1, (HM.out.carry h).2.1, (HM.out.carry h).2.2.1, (HM.out.carry h).2.2.2.1, (HM.out.carry h).2.2.2.2, (H9.out.carry h).1, (H9.out.carry h).2⟩
  have hbd := (Below.refl W4.heap.size W4).drew
  go_region_held3 (fun w' => Below W4.heap.size W4 w' ∧ w'.cell? ⟨Bm, 0, none⟩ = some (.string m.name) ∧ w'.cell? ⟨Bm, 1, none⟩ = some (.int .i64 m.to) ∧ w'.cell? ⟨Bm, 2, none⟩ = some (.int .i64 m.spd) ∧ w'.cell? ⟨Bm, 3, none⟩ = some (.int .i64 m.rise) ∧ w'.cell? ⟨Bm, 4, none⟩ = some (.int .i64 m.fall) ∧ w'.cell? ⟨B9, 0, none⟩ = some (.int .i64 (stopN m)) ∧ w'.cell? ⟨B9, 1, none⟩ = some (.int .i64 (stopD m)))
    (first | (with_reducible exact HS10.out _ hbd) | exact HS10.out _ hx6)
    (first
      | (go_at_call 25; go_split_ands; (with_reducible refine (RS.out _).mono ?_); rintro e w6 ⟨rfl, hb6⟩; have hx6 := hbd.trans hb6))
  have HM := Lib.hid (HM.out.carry hx6)
  have H5 := Lib.hid (H5.out.carry hx6)
  have HP := Lib.hid (HP.out.grow hx6)
  have hW6 := hW5.trans (hx6.mono hW5.size)
  clear hb6 hW5 hbd HS10 hx6
  obtain ⟨k0, k1, k2, k3, k4⟩ := HM.out
  go_upto_region 13 with (go_at_call 14; (with_reducible refine (refgiven_any d m _).mono ?_); rintro e w7 ⟨rfl, hb7⟩; rw [HG.out])
  have HM := Lib.hid (HM.out.carry hb7)
  have H5 := Lib.hid (H5.out.carry hb7)
  have HP := Lib.hid (HP.out.grow hb7)
  have hW7 := hW6.trans (hb7.mono hW6.size)
  clear hb7 hW6 k0 k1 k2 k3 k4
  obtain ⟨W6, rfl⟩ : ∃ W : World, W = w7 := ⟨_, rfl⟩
  go_upto_region 15 with (fail)
  have HS15 : Hid (∀ w', Below W6.heap.size W6 w' → Below W6.heap.size W6 w' ∧ w'.cell? ⟨Bm, 0, none⟩ = some (.string m.name) ∧ w'.cell? ⟨Bm, 1, none⟩ = some (.int .i64 m.to) ∧ w'.cell? ⟨Bm, 2, none⟩ = some (.int .i64 m.spd) ∧ w'.cell? ⟨Bm, 3, none⟩ = some (.int .i64 m.rise) ∧ w'.cell? ⟨Bm, 4, none⟩ = some (.int .i64 m.fall) ∧ w'.cell? ⟨B5, 0, none⟩ = some (.int .i64 P.1) ∧ w'.cell? ⟨B5, 1, none⟩ = some (.int .i64 P.2)) := Lib.hid fun w' h => ⟨h, (HM.out.carry h).1, (HM.out.carry h).2.1, (HM.out.carry h).2.2.1, (HM.out.carry h).2.2.2.1, (HM.out.carry h).2.2.2.2, (H5.out.carry h).1, (H5.out.carry h).2⟩
  have hbd := (Below.refl W6.heap.size W6).drew
  go_region_held3 (fun w' => Below W6.heap.size W6 w' ∧ w'.cell? ⟨Bm, 0, none⟩ = some (.string m.name) ∧ w'.cell? ⟨Bm, 1, none⟩ = some (.int .i64 m.to) ∧ w'.cell? ⟨Bm, 2, none⟩ = some (.int .i64 m.spd) ∧ w'.cell? ⟨Bm, 3, none⟩ = some (.int .i64 m.rise) ∧ w'.cell? ⟨Bm, 4, none⟩ = some (.int .i64 m.fall) ∧ w'.cell? ⟨B5, 0, none⟩ = some (.int .i64 P.1) ∧ w'.cell? ⟨B5, 1, none⟩ = some (.int .i64 P.2))
    (first | (with_reducible exact HS15.out _ hbd) | exact HS15.out _ hx10 | exact HS15.out _ hx9 | exact HS15.out _ hx8)
    (first
      | (go_at_call 26; go_split_ands; (with_reducible refine (RT.out _).mono ?_); rintro e w8 ⟨rfl, hb8⟩; have hx8 := hbd.trans hb8)
      | (go_at_call 28; go_split_ands; (with_reducible refine (RK.out _).mono ?_); rintro e w9 ⟨hv9, hb9⟩; obtain ⟨v9, rfl, hr9⟩ := hv9.out; obtain ⟨qa, qcap, rfl, _, _, _, hQ⟩ := fr_of_row hr9; have HQ := Lib.hid hQ; clear hQ hr9 hv9; have hx9 := held_next (wr := W6) hx8 hb9)
      | (go_at_call 27; go_split_ands; (with_reducible refine (fr_equal pa qa L L pcap qcap _ (by omega) (HP.out.grow hx9) HQ.out (by omega)).mono ?_); rintro e w10 ⟨rfl, hb10⟩; have hx10 := held_next (wr := W6) hx9 hb10; rw [decide_eq_true (rfl : L = L)]))
  go_wp2_with fail
  go_ret
  exact ⟨rfl, hW7.trans (hx10.mono hW7.size)⟩

theorem lawtimes_law (d : Int) (m : Mv) (w : World) : Calls Try.prog 7 #[.int .i64 d, .agg #[.string m.name, .int .i64 m.to, .int .i64 m.spd, .int .i64 m.rise, .int .i64 m.fall]] w fun e w' => e = .returned (.bool true) ∧ Below w.heap.size w w' := by
  obtain ⟨t, ht⟩ := top_some d m
  by_cases hl : (m.name.size : Int) ≤ 100
  · cases hv : validM m
    · exact lawtimes_a d m t ht hl hv w
    · cases hd : inB d 0 1048576
      · exact lawtimes_b d m t ht hl hv (by unfold givenP; rw [hv, hd]; rfl) w
      · exact lawtimes_c d m t ht hl hv (by unfold givenP; rw [hv, hd]; rfl) w
  · have hl' : decide (100 < (m.name.size : Int)) = true := decide_eq_true (by omega)
    have HM := Lib.hid (MvAt.new w m 23)
    have hW0 := below_new w (.cells #[.string m.name, .int .i64 m.to, .int .i64 m.spd, .int .i64 m.rise, .int .i64 m.fall] 23)
    clear ht
    go_enter Try.func7, Try.ntmps7
    go_upto_region 1 with (fail)
    generalize w.alloc (.cells #[.string m.name, .int .i64 m.to, .int .i64 m.spd, .int .i64 m.rise, .int .i64 m.fall] 23) = W0 at *
    go_wp2_with (go_at_call 10; (with_reducible refine (awake_any _).mono ?_); rintro e w1 ⟨rfl, hB1⟩; obtain ⟨k0, k1, k2, k3, k4⟩ := HM.out.carry hB1)
    go_ret
    exact ⟨rfl, hW0.trans (hB1.mono hW0.size)⟩
end Go.Proofs.Ytlgpolfbilkmbaa
