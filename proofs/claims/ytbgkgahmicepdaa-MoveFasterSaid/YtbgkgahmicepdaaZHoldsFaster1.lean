/-
  THE WALK of the law MoveFaster.
  THE STATEMENT MoveFasterSaid: at whatever arguments the law MoveFaster answers true, and each argument reads as it did. Conditions: none beyond the given row.
-/
import Derived.Test.YtbgkgahmicepdaaZ32
import Derived.Test.YtbgkgahmicepdaaZ33
namespace Go.Proofs.Ytbgkgahmicepdaa
open Go.RowKit Go.Shelf
attribute [local go_sem] Oper.semAt_some
set_option maxRecDepth 100000 in
set_option maxHeartbeats 16000000 in
theorem lawfaster_law (h : HouseR) (f : Int) (m : Mv) (s r l : Int) (s0 : 0 ≤ s ∧ s ≤ 255) (r0 : 0 ≤ r ∧ r ≤ 255) (l0 : 0 ≤ l ∧ l ≤ 255) (w : World) (hh : HouseIn0 w h) :
  Calls Try.prog 5 #[.agg #[.string h.name, .int .i64 h.height, .slice h.sa h.sets.length h.sc, .slice h.ra h.roofs.length h.rc], .int .i64 f, .agg #[.string m.name, .int .i64 m.to, .int .i64 m.spd, .int .i64 m.rise, .int .i64 m.fall], .int .u8 s, .int .u8 r, .int .u8 l] w fun e w' => e = .returned (.bool true) ∧ Below w.heap.size w w' := by
 obtain ⟨b, hb⟩ : ∃ b, fewB h m = b := ⟨_, rfl⟩
 have HFE : Hid (∀ w : World, HouseIn0 w h → Calls Try.prog 8 #[.agg #[.string h.name, .int .i64 h.height, .slice h.sa h.sets.length h.sc, .slice h.ra h.roofs.length h.rc], .agg #[.string m.name, .int .i64 m.to, .int .i64 m.spd, .int .i64 m.rise, .int .i64 m.fall]] w fun e w' => e = .returned (.bool b) ∧ Below w.heap.size w w') := Lib.hid fun w hh => by
  have := few_any h m w hh
  rwa [hb] at this
 cases b
 ·clear hb s0 r0 l0
  go_enter Try.func5, Try.ntmps5
  go_upto_region 1 with (fail)
  have hat1 := ((HouseAt.new w h 25).carry (below_new (w.alloc (.cells #[.string h.name, .int .i64 h.height, .slice h.sa h.sets.length h.sc, .slice h.ra h.roofs.length h.rc] 25)) (.cells #[.string m.name, .int .i64 m.to, .int .i64 m.spd, .int .i64 m.rise, .int .i64 m.fall] 27)))
  have mat1 := (MvAt.new (w.alloc (.cells #[.string h.name, .int .i64 h.height, .slice h.sa h.sets.length h.sc, .slice h.ra h.roofs.length h.rc] 25)) m 27)
  have hB := ((below_new w (.cells #[.string h.name, .int .i64 h.height, .slice h.sa h.sets.length h.sc, .slice h.ra h.roofs.length h.rc] 25)).alloc (by simp) (.cells #[.string m.name, .int .i64 m.to, .int .i64 m.spd, .int .i64 m.rise, .int .i64 m.fall] 27))
  have HH := Lib.hid (hh.grow hB)
  have hm1 : (w.alloc (.cells #[.string h.name, .int .i64 h.height, .slice h.sa h.sets.length h.sc, .slice h.ra h.roofs.length h.rc] 25)).heap.size = w.heap.size + 1 := by simp
  rw [hm1] at mat1
  clear hm1
  generalize ((w.alloc (.cells #[.string h.name, .int .i64 h.height, .slice h.sa h.sets.length h.sc, .slice h.ra h.roofs.length h.rc] 25)).alloc (.cells #[.string m.name, .int .i64 m.to, .int .i64 m.spd, .int .i64 m.rise, .int .i64 m.fall] 27)) = W0 at *
  have HAT := Lib.hid hat1
  have MAT := Lib.hid mat1
  clear hat1 mat1
  go_upto_region 3 with (go_at_call 7; (with_reducible refine (awake_any _).mono ?_); rintro e w1 ⟨rfl, hbs⟩)
  replace HAT := Lib.hid (HAT.out.carry hbs)
  replace MAT := Lib.hid (MAT.out.carry hbs)
  replace HH := Lib.hid (HH.out.grow hbs)
  replace hB := hB.trans (hbs.mono hB.size)
  clear hbs
  obtain ⟨k0, k1, k2, k3⟩ := HAT.out
  obtain ⟨m0, m1, m2, m3, m4⟩ := MAT.out
  go_wp2_with (go_at_call 8; (with_reducible refine (HFE.out _ HH.out).mono ?_); rintro e w2 ⟨rfl, hbs⟩)
  go_ret
  exact ⟨rfl, hB.trans (hbs.mono hB.size)⟩
 ·have hh1 := few_in hh hb
  clear hb hh
  obtain ⟨t, ht⟩ := top_some35 h f m
  by_cases e0 : mgE h f m = 0
  ·obtain ⟨u, hu⟩ := top_some35 h f ⟨m.name, m.to, m.spd + s, m.rise + r, m.fall + l⟩
   obtain ⟨P, hP⟩ : ∃ P, timeP (mgD f m) m t = P := ⟨_, rfl⟩
   have HE1 : Hid (∀ w : World, HouseIn w h → Calls Try.prog 9 #[.agg #[.string h.name, .int .i64 h.height, .slice h.sa h.sets.length h.sc, .slice h.ra h.roofs.length h.rc], .int .i64 f, .agg #[.string m.name, .int .i64 m.to, .int .i64 m.spd, .int .i64 m.rise, .int .i64 m.fall]] w fun e w' => e = .returned (.tuple #[.agg #[.int .i64 P.1, .int .i64 P.2], .int .i64 0]) ∧ Below w.heap.size w w') := Lib.hid fun w hh => by
    have := mend_any h f m t ht w hh
    rwa [e0, show endP h f m t = P by unfold endP; rw [if_pos e0, hP]] at this
   obtain ⟨_, vm, _, _, _, _, gd, _⟩ := mg_ok e0
   obtain ⟨V0, V1, R0, R1, F0, F1⟩ := valid_bds vm
   have vP : vF P = true := by rw [← hP]; exact time_vF gd (ht e0)
   by_cases e1 : mgE h f ⟨m.name, m.to, m.spd + s, m.rise + r, m.fall + l⟩ = 0
   ·obtain ⟨Q, hQ⟩ : ∃ Q, timeP (mgD f m) ⟨m.name, m.to, m.spd + s, m.rise + r, m.fall + l⟩ u = Q := ⟨_, rfl⟩
    have HE2 : Hid (∀ w : World, HouseIn w h → Calls Try.prog 9 #[.agg #[.string h.name, .int .i64 h.height, .slice h.sa h.sets.length h.sc, .slice h.ra h.roofs.length h.rc], .int .i64 f, .agg #[.string m.name, .int .i64 m.to, .int .i64 (m.spd + s), .int .i64 (m.rise + r), .int .i64 (m.fall + l)]] w fun e w' => e = .returned (.tuple #[.agg #[.int .i64 Q.1, .int .i64 Q.2], .int .i64 0]) ∧ Below w.heap.size w w') := Lib.hid fun w hh => by
     have := mend_any h f ⟨m.name, m.to, m.spd + s, m.rise + r, m.fall + l⟩ u hu w hh
     rwa [e1, show endP h f ⟨m.name, m.to, m.spd + s, m.rise + r, m.fall + l⟩ u = Q by unfold endP; rw [if_pos e1]; exact hQ] at this
    have gd2 : givenP (mgD f m) ⟨m.name, m.to, m.spd + s, m.rise + r, m.fall + l⟩ = 0 := (mg_ok e1).2.2.2.2.2.2.1
    have vQ : vF Q = true := by rw [← hQ]; exact time_vF gd2 (hu e1)
    have hle := faster_all gd (ht e0) gd2 (hu e1) (show m.spd ≤ m.spd + s by omega) (show m.rise ≤ m.rise + r by omega) (show m.fall ≤ m.fall + l by omega)
    rw [hP, hQ] at hle
    obtain ⟨C, hC⟩ : ∃ C, cmpP (Q.1 * P.2) (P.1 * Q.2) = C := ⟨_, rfl⟩
    have z : decide (C ≤ 0) = true := by rw [← hC]; exact cmp_le hle
    have HCM : Hid (∀ w : World, Calls Try.prog 12 #[.agg #[.int .i64 Q.1, .int .i64 Q.2], .agg #[.int .i64 P.1, .int .i64 P.2]] w fun e w' => e = .returned (.tuple #[.int .i64 C, .int .i64 0]) ∧ Below w.heap.size w w') := Lib.hid fun w => by
     have := cmp_gen Q P w
     rwa [cmpG_ok vQ vP, hC] at this
    have a1 : IntKind.i64.wrap s = s := IntWalk.i64_in _ (by omega)
    have a2 : IntKind.i64.wrap r = r := IntWalk.i64_in _ (by omega)
    have a3 : IntKind.i64.wrap l = l := IntWalk.i64_in _ (by omega)
    have b1 : IntKind.i64.wrap (m.spd + s) = m.spd + s := IntWalk.i64_in _ (by omega)
    have b2 : IntKind.i64.wrap (m.rise + r) = m.rise + r := IntWalk.i64_in _ (by omega)
    have b3 : IntKind.i64.wrap (m.fall + l) = m.fall + l := IntWalk.i64_in _ (by omega)
    clear hP hQ hC hle gd2 e1 hu vQ vP vm gd e0 ht s0 r0 l0 V0 V1 R0 R1 F0 F1
    go_enter Try.func5, Try.ntmps5
    go_upto_region 1 with (fail)
    have hat1 := ((HouseAt.new w h 25).carry (below_new (w.alloc (.cells #[.string h.name, .int .i64 h.height, .slice h.sa h.sets.length h.sc, .slice h.ra h.roofs.length h.rc] 25)) (.cells #[.string m.name, .int .i64 m.to, .int .i64 m.spd, .int .i64 m.rise, .int .i64 m.fall] 27)))
    have mat1 := (MvAt.new (w.alloc (.cells #[.string h.name, .int .i64 h.height, .slice h.sa h.sets.length h.sc, .slice h.ra h.roofs.length h.rc] 25)) m 27)
    have hB := ((below_new w (.cells #[.string h.name, .int .i64 h.height, .slice h.sa h.sets.length h.sc, .slice h.ra h.roofs.length h.rc] 25)).alloc (by simp) (.cells #[.string m.name, .int .i64 m.to, .int .i64 m.spd, .int .i64 m.rise, .int .i64 m.fall] 27))
    have HH := Lib.hid (hh1.grow hB)
    have hm1 : (w.alloc (.cells #[.string h.name, .int .i64 h.height, .slice h.sa h.sets.length h.sc, .slice h.ra h.roofs.length h.rc] 25)).heap.size = w.heap.size + 1 := by simp
    rw [hm1] at mat1
    clear hm1
    generalize ((w.alloc (.cells #[.string h.name, .int .i64 h.height, .slice h.sa h.sets.length h.sc, .slice h.ra h.roofs.length h.rc] 25)).alloc (.cells #[.string m.name, .int .i64 m.to, .int .i64 m.spd, .int .i64 m.rise, .int .i64 m.fall] 27)) = W0 at *
    have HAT := Lib.hid hat1
    have MAT := Lib.hid mat1
    clear hat1 mat1
    go_upto_region 3 with (go_at_call 7; (with_reducible refine (awake_any _).mono ?_); rintro e w1 ⟨rfl, hbs⟩)
    replace HAT := Lib.hid (HAT.out.carry hbs)
    replace MAT := Lib.hid (MAT.out.carry hbs)
    replace HH := Lib.hid (HH.out.grow hbs)
    replace hB := hB.trans (hbs.mono hB.size)
    clear hbs
    obtain ⟨k0, k1, k2, k3⟩ := HAT.out
    obtain ⟨m0, m1, m2, m3, m4⟩ := MAT.out
    go_upto_region 5 with (go_at_call 8; (with_reducible refine (HFE.out _ HH.out.toHouseIn0).mono ?_); rintro e w2 ⟨rfl, hbs⟩)
    clear k0 k1 k2 k3 m0 m1 m2 m3 m4
    replace HAT := Lib.hid (HAT.out.carry hbs)
    replace MAT := Lib.hid (MAT.out.carry hbs)
    replace HH := Lib.hid (HH.out.grow hbs)
    replace hB := hB.trans (hbs.mono hB.size)
    clear hbs
    obtain ⟨k0, k1, k2, k3⟩ := HAT.out
    obtain ⟨m0, m1, m2, m3, m4⟩ := MAT.out
    go_upto_region 6 with (go_at_call 9; (with_reducible refine (HE1.out _ HH.out).mono ?_); rintro e w3 ⟨rfl, hbs⟩)
    clear k0 k1 k2 k3 m0 m1 m2 m3 m4
    replace HAT := Lib.hid (HAT.out.carry hbs)
    replace MAT := Lib.hid (MAT.out.carry hbs)
    replace HH := Lib.hid (HH.out.grow hbs)
    replace hB := hB.trans (hbs.mono hB.size)
    clear hbs
    have hbn := below_new w3 (.cells #[.int .i64 (P.1), .int .i64 (P.2)] 29)
    have hF := FI.put w3 (P.1) (P.2) 29
    replace HAT := Lib.hid (HAT.out.carry hbn)
    replace MAT := Lib.hid (MAT.out.carry hbn)
    replace HH := Lib.hid (HH.out.grow hbn)
    replace hB := hB.trans (hbn.mono hB.size)
    clear hbn
    obtain ⟨Bp, hBq⟩ : ∃ b, w3.heap.size = b := ⟨_, rfl⟩
    simp only [hBq] at hF ⊢
    have FP := Lib.hid hF
    clear hF
    generalize w3.alloc (.cells #[.int .i64 (P.1), .int .i64 (P.2)] 29) = W3 at *
    clear hBq
    obtain ⟨m0, m1, m2, m3, m4⟩ := MAT.out
    go_upto_region 10 with (fail)
    clear m0 m1 m2 m3 m4
    have hbn := below_new W3 (.cells #[.string m.name, .int .i64 m.to, .int .i64 (m.spd + s), .int .i64 (m.rise + r), .int .i64 (m.fall + l)] 27)
    have hF := MvAt.new W3 ⟨m.name, m.to, m.spd + s, m.rise + r, m.fall + l⟩ 27
    replace HAT := Lib.hid (HAT.out.carry hbn)
    replace MAT := Lib.hid (MAT.out.carry hbn)
    replace HH := Lib.hid (HH.out.grow hbn)
    replace FP := Lib.hid (FP.out.carry hbn)
    replace hB := hB.trans (hbn.mono hB.size)
    clear hbn
    obtain ⟨Bn, hBq⟩ : ∃ b, W3.heap.size = b := ⟨_, rfl⟩
    simp only [hBq] at hF ⊢
    have NAT := Lib.hid hF
    clear hF
    generalize W3.alloc (.cells #[.string m.name, .int .i64 m.to, .int .i64 (m.spd + s), .int .i64 (m.rise + r), .int .i64 (m.fall + l)] 27) = W4 at *
    clear hBq
    obtain ⟨k0, k1, k2, k3⟩ := HAT.out
    obtain ⟨n0, n1, n2, n3, n4⟩ := NAT.out
    go_upto_region 11 with (go_at_call 9; (with_reducible refine (HE2.out _ HH.out).mono ?_); rintro e w5 ⟨rfl, hbs⟩)
    clear k0 k1 k2 k3 n0 n1 n2 n3 n4
    replace HAT := Lib.hid (HAT.out.carry hbs)
    replace MAT := Lib.hid (MAT.out.carry hbs)
    replace HH := Lib.hid (HH.out.grow hbs)
    replace FP := Lib.hid (FP.out.carry hbs)
    replace NAT := Lib.hid (NAT.out.carry hbs)
    replace hB := hB.trans (hbs.mono hB.size)
    clear hbs
    have hbn := below_new w5 (.cells #[.int .i64 (Q.1), .int .i64 (Q.2)] 29)
    have hF := FI.put w5 (Q.1) (Q.2) 29
    replace HAT := Lib.hid (HAT.out.carry hbn)
    replace MAT := Lib.hid (MAT.out.carry hbn)
    replace HH := Lib.hid (HH.out.grow hbn)
    replace FP := Lib.hid (FP.out.carry hbn)
    replace NAT := Lib.hid (NAT.out.carry hbn)
    replace hB := hB.trans (hbn.mono hB.size)
    clear hbn
    obtain ⟨Bq, hBq⟩ : ∃ b, w5.heap.size = b := ⟨_, rfl⟩
    simp only [hBq] at hF ⊢
    have FQ := Lib.hid hF
    clear hF
    generalize w5.alloc (.cells #[.int .i64 (Q.1), .int .i64 (Q.2)] 29) = W5 at *
    clear hBq
    obtain ⟨p0, p1, _, _, _⟩ := FP.out
    obtain ⟨q0, q1, _, _, _⟩ := FQ.out
    go_wp2_with (go_at_call 12; (with_reducible refine (HCM.out _).mono ?_); rintro e w6 ⟨rfl, hbs⟩)
    go_ret
    exact ⟨rfl, hB.trans (hbs.mono hB.size)⟩
   ·have e2 : mgE h f ⟨m.name, m.to, m.spd + s, m.rise + r, m.fall + l⟩ = 1 := (mg_err (n := ⟨m.name, m.to, m.spd + s, m.rise + r, m.fall + l⟩) e0 rfl rfl).resolve_left e1
    have HE2 : Hid (∀ w : World, HouseIn w h → Calls Try.prog 9 #[.agg #[.string h.name, .int .i64 h.height, .slice h.sa h.sets.length h.sc, .slice h.ra h.roofs.length h.rc], .int .i64 f, .agg #[.string m.name, .int .i64 m.to, .int .i64 (m.spd + s), .int .i64 (m.rise + r), .int .i64 (m.fall + l)]] w fun e w' => e = .returned (.tuple #[.agg #[.int .i64 0, .int .i64 0], .int .i64 1]) ∧ Below w.heap.size w w') := Lib.hid fun w hh => by
     have := mend_any h f ⟨m.name, m.to, m.spd + s, m.rise + r, m.fall + l⟩ u hu w hh
     rwa [e2, show endP h f ⟨m.name, m.to, m.spd + s, m.rise + r, m.fall + l⟩ u = (0, 0) by unfold endP; rw [if_neg e1]] at this
    have a1 : IntKind.i64.wrap s = s := IntWalk.i64_in _ (by omega)
    have a2 : IntKind.i64.wrap r = r := IntWalk.i64_in _ (by omega)
    have a3 : IntKind.i64.wrap l = l := IntWalk.i64_in _ (by omega)
    have b1 : IntKind.i64.wrap (m.spd + s) = m.spd + s := IntWalk.i64_in _ (by omega)
    have b2 : IntKind.i64.wrap (m.rise + r) = m.rise + r := IntWalk.i64_in _ (by omega)
    have b3 : IntKind.i64.wrap (m.fall + l) = m.fall + l := IntWalk.i64_in _ (by omega)
    clear hP e1 e2 hu vP vm gd e0 ht s0 r0 l0 V0 V1 R0 R1 F0 F1
    go_enter Try.func5, Try.ntmps5
    go_upto_region 1 with (fail)
    have hat1 := ((HouseAt.new w h 25).carry (below_new (w.alloc (.cells #[.string h.name, .int .i64 h.height, .slice h.sa h.sets.length h.sc, .slice h.ra h.roofs.length h.rc] 25)) (.cells #[.string m.name, .int .i64 m.to, .int .i64 m.spd, .int .i64 m.rise, .int .i64 m.fall] 27)))
    have mat1 := (MvAt.new (w.alloc (.cells #[.string h.name, .int .i64 h.height, .slice h.sa h.sets.length h.sc, .slice h.ra h.roofs.length h.rc] 25)) m 27)
    have hB := ((below_new w (.cells #[.string h.name, .int .i64 h.height, .slice h.sa h.sets.length h.sc, .slice h.ra h.roofs.length h.rc] 25)).alloc (by simp) (.cells #[.string m.name, .int .i64 m.to, .int .i64 m.spd, .int .i64 m.rise, .int .i64 m.fall] 27))
    have HH := Lib.hid (hh1.grow hB)
    have hm1 : (w.alloc (.cells #[.string h.name, .int .i64 h.height, .slice h.sa h.sets.length h.sc, .slice h.ra h.roofs.length h.rc] 25)).heap.size = w.heap.size + 1 := by simp
    rw [hm1] at mat1
    clear hm1
    generalize ((w.alloc (.cells #[.string h.name, .int .i64 h.height, .slice h.sa h.sets.length h.sc, .slice h.ra h.roofs.length h.rc] 25)).alloc (.cells #[.string m.name, .int .i64 m.to, .int .i64 m.spd, .int .i64 m.rise, .int .i64 m.fall] 27)) = W0 at *
    have HAT := Lib.hid hat1
    have MAT := Lib.hid mat1
    clear hat1 mat1
    go_upto_region 3 with (go_at_call 7; (with_reducible refine (awake_any _).mono ?_); rintro e w1 ⟨rfl, hbs⟩)
    replace HAT := Lib.hid (HAT.out.carry hbs)
    replace MAT := Lib.hid (MAT.out.carry hbs)
    replace HH := Lib.hid (HH.out.grow hbs)
    replace hB := hB.trans (hbs.mono hB.size)
    clear hbs
    obtain ⟨k0, k1, k2, k3⟩ := HAT.out
    obtain ⟨m0, m1, m2, m3, m4⟩ := MAT.out
    go_upto_region 5 with (go_at_call 8; (with_reducible refine (HFE.out _ HH.out.toHouseIn0).mono ?_); rintro e w2 ⟨rfl, hbs⟩)
    clear k0 k1 k2 k3 m0 m1 m2 m3 m4
    replace HAT := Lib.hid (HAT.out.carry hbs)
    replace MAT := Lib.hid (MAT.out.carry hbs)
    replace HH := Lib.hid (HH.out.grow hbs)
    replace hB := hB.trans (hbs.mono hB.size)
    clear hbs
    obtain ⟨k0, k1, k2, k3⟩ := HAT.out
    obtain ⟨m0, m1, m2, m3, m4⟩ := MAT.out
    go_upto_region 6 with (go_at_call 9; (with_reducible refine (HE1.out _ HH.out).mono ?_); rintro e w3 ⟨rfl, hbs⟩)
    clear k0 k1 k2 k3 m0 m1 m2 m3 m4
    replace HAT := Lib.hid (HAT.out.carry hbs)
    replace MAT := Lib.hid (MAT.out.carry hbs)
    replace HH := Lib.hid (HH.out.grow hbs)
    replace hB := hB.trans (hbs.mono hB.size)
    clear hbs
    have hbn := below_new w3 (.cells #[.int .i64 (P.1), .int .i64 (P.2)] 29)
    have hF := FI.put w3 (P.1) (P.2) 29
    replace HAT := Lib.hid (HAT.out.carry hbn)
    replace MAT := Lib.hid (MAT.out.carry hbn)
    replace HH := Lib.hid (HH.out.grow hbn)
    replace hB := hB.trans (hbn.mono hB.size)
    clear hbn
    obtain ⟨Bp, hBq⟩ : ∃ b, w3.heap.size = b := ⟨_, rfl⟩
    simp only [hBq] at hF ⊢
    have FP := Lib.hid hF
    clear hF
    generalize w3.alloc (.cells #[.int .i64 (P.1), .int .i64 (P.2)] 29) = W3 at *
    clear hBq
    obtain ⟨m0, m1, m2, m3, m4⟩ := MAT.out
    go_upto_region 10 with (fail)
    clear m0 m1 m2 m3 m4
    have hbn := below_new W3 (.cells #[.string m.name, .int .i64 m.to, .int .i64 (m.spd + s), .int .i64 (m.rise + r), .int .i64 (m.fall + l)] 27)
    have hF := MvAt.new W3 ⟨m.name, m.to, m.spd + s, m.rise + r, m.fall + l⟩ 27
    replace HAT := Lib.hid (HAT.out.carry hbn)
    replace MAT := Lib.hid (MAT.out.carry hbn)
    replace HH := Lib.hid (HH.out.grow hbn)
    replace FP := Lib.hid (FP.out.carry hbn)
    replace hB := hB.trans (hbn.mono hB.size)
    clear hbn
    obtain ⟨Bn, hBq⟩ : ∃ b, W3.heap.size = b := ⟨_, rfl⟩
    simp only [hBq] at hF ⊢
    have NAT := Lib.hid hF
    clear hF
    generalize W3.alloc (.cells #[.string m.name, .int .i64 m.to, .int .i64 (m.spd + s), .int .i64 (m.rise + r), .int .i64 (m.fall + l)] 27) = W4 at *
    clear hBq
    obtain ⟨k0, k1, k2, k3⟩ := HAT.out
    obtain ⟨n0, n1, n2, n3, n4⟩ := NAT.out
    go_wp2_with (go_at_call 9; (with_reducible refine (HE2.out _ HH.out).mono ?_); rintro e w5 ⟨rfl, hbs⟩)
    go_ret
    exact ⟨rfl, hB.trans ((below_a _ hbs).mono hB.size)⟩
  ·obtain ⟨E, hE⟩ : ∃ E, mgE h f m = E := ⟨_, rfl⟩
   have HE1 : Hid (∀ w : World, HouseIn w h → Calls Try.prog 9 #[.agg #[.string h.name, .int .i64 h.height, .slice h.sa h.sets.length h.sc, .slice h.ra h.roofs.length h.rc], .int .i64 f, .agg #[.string m.name, .int .i64 m.to, .int .i64 m.spd, .int .i64 m.rise, .int .i64 m.fall]] w fun e w' => e = .returned (.tuple #[.agg #[.int .i64 0, .int .i64 0], .int .i64 E]) ∧ Below w.heap.size w w') := Lib.hid fun w hh => by
    have := mend_any h f m t ht w hh
    rwa [hE, show endP h f m t = (0, 0) by unfold endP; rw [if_neg e0]] at this
   rw [hE] at e0
   have p1 : (E != 0) = true := by simpa using e0
   clear e0 hE ht s0 r0 l0
   go_enter Try.func5, Try.ntmps5
   go_upto_region 1 with (fail)
   have hat1 := ((HouseAt.new w h 25).carry (below_new (w.alloc (.cells #[.string h.name, .int .i64 h.height, .slice h.sa h.sets.length h.sc, .slice h.ra h.roofs.length h.rc] 25)) (.cells #[.string m.name, .int .i64 m.to, .int .i64 m.spd, .int .i64 m.rise, .int .i64 m.fall] 27)))
   have mat1 := (MvAt.new (w.alloc (.cells #[.string h.name, .int .i64 h.height, .slice h.sa h.sets.length h.sc, .slice h.ra h.roofs.length h.rc] 25)) m 27)
   have hB := ((below_new w (.cells #[.string h.name, .int .i64 h.height, .slice h.sa h.sets.length h.sc, .slice h.ra h.roofs.length h.rc] 25)).alloc (by simp) (.cells #[.string m.name, .int .i64 m.to, .int .i64 m.spd, .int .i64 m.rise, .int .i64 m.fall] 27))
   have HH := Lib.hid (hh1.grow hB)
   have hm1 : (w.alloc (.cells #[.string h.name, .int .i64 h.height, .slice h.sa h.sets.length h.sc, .slice h.ra h.roofs.length h.rc] 25)).heap.size = w.heap.size + 1 := by simp
   rw [hm1] at mat1
   clear hm1
   generalize ((w.alloc (.cells #[.string h.name, .int .i64 h.height, .slice h.sa h.sets.length h.sc, .slice h.ra h.roofs.length h.rc] 25)).alloc (.cells #[.string m.name, .int .i64 m.to, .int .i64 m.spd, .int .i64 m.rise, .int .i64 m.fall] 27)) = W0 at *
   have HAT := Lib.hid hat1
   have MAT := Lib.hid mat1
   clear hat1 mat1
   go_upto_region 3 with (go_at_call 7; (with_reducible refine (awake_any _).mono ?_); rintro e w1 ⟨rfl, hbs⟩)
   replace HAT := Lib.hid (HAT.out.carry hbs)
   replace MAT := Lib.hid (MAT.out.carry hbs)
   replace HH := Lib.hid (HH.out.grow hbs)
   replace hB := hB.trans (hbs.mono hB.size)
   clear hbs
   obtain ⟨k0, k1, k2, k3⟩ := HAT.out
   obtain ⟨m0, m1, m2, m3, m4⟩ := MAT.out
   go_upto_region 5 with (go_at_call 8; (with_reducible refine (HFE.out _ HH.out.toHouseIn0).mono ?_); rintro e w2 ⟨rfl, hbs⟩)
   clear k0 k1 k2 k3 m0 m1 m2 m3 m4
   replace HAT := Lib.hid (HAT.out.carry hbs)
   replace MAT := Lib.hid (MAT.out.carry hbs)
   replace HH := Lib.hid (HH.out.grow hbs)
   replace hB := hB.trans (hbs.mono hB.size)
   clear hbs
   obtain ⟨k0, k1, k2, k3⟩ := HAT.out
   obtain ⟨m0, m1, m2, m3, m4⟩ := MAT.out
   go_wp2_with (go_at_call 9; (with_reducible refine (HE1.out _ HH.out).mono ?_); rintro e w3 ⟨rfl, hbs⟩)
   go_ret
   exact ⟨rfl, hB.trans ((below_a _ hbs).mono hB.size)⟩
end Go.Proofs.Ytbgkgahmicepdaa
namespace Go.Proofs.Ytbgkgahmicepdaa
open Go.ChangeShapes Go.WideShapes Go.ChangeAt Go.WideMaps Go.WideElems Go.RowKit
open Go.ChangeMaps (open_string shut_string)
theorem u8_bd {n : Int} (h : (Lit.int .u8 n).wf = true) : 0 ≤ n ∧ n ≤ 255 := by
 have e : IntKind.u8.min ≤ n ∧ n ≤ IntKind.u8.max := by simpa [Lit.wf] using h
 exact e
set_option maxRecDepth 100000 in
theorem moveFaster_lifted (os : Os) (started : os.Started) (H : Type) (enc : TypeId × Value → H) :
  ReturnsInHanded {} Try.checked os 5 .any (Rows.moveFasterSpec.pre6 enc Try.prog Try.f5 Rows.moveFasterRow.domain false) (Rows.moveFasterSpec.post enc Try.prog Try.f5 false true false false) := by
 refine returnsInHanded_of_change (C := Try.checked) own started (by kernel_rfl) Try.func5
  (ChangeSpec.witness6 (enc := enc) (C := Try.checked) false ⟨#[], #[.agg #[.string ⟨#[]⟩, .int .i64 0, .slice none 0 0, .slice none 0 0], .int .i64 0, .agg #[.string ⟨#[]⟩, .int .i64 0, .int .i64 0, .int .i64 0, .int .i64 0], .int .u8 0, .int .u8 0, .int .u8 0], []⟩ 8 (by kernel_rfl) (by kernel_rfl) (by kernel_rfl) (by kernel_rfl)) ?_
 intro W base args ds gs before hval0 hW hcnd _
 have hval : ∀ (j : Nat) t v, Try.f5.params[j]? = some t → args[j]? = some v → Value.okWide Try.prog W .any base t v := hval0
 have hW' := hW
 obtain ⟨p, q, hA0, hV, rfl, hfz, hnd⟩ := hW
 have hA : DataW.TrodAll enc Try.prog W 0 (fun _ => true) true Try.f5.params.toList args.toList ds p := hA0
 rw [Try.params5] at hA hval
 obtain ⟨v0, vs0, d0, ds0, p0, q0, hargs, rfl, rfl, h0, r0⟩ := trodAll_cons hA
 obtain ⟨v1, vs1, d1, ds1, p1, q1, rfl, rfl, rfl, h1, r1⟩ := trodAll_cons r0
 obtain ⟨v2, vs2, d2, ds2, p2, q2, rfl, rfl, rfl, h2, r2⟩ := trodAll_cons r1
 obtain ⟨v3, vs3, d3, ds3, p3, q3, rfl, rfl, rfl, h3, r3⟩ := trodAll_cons r2
 obtain ⟨v4, vs4, d4, ds4, p4, q4, rfl, rfl, rfl, h4, r4⟩ := trodAll_cons r3
 obtain ⟨v5, vs5, d5, ds5, p5, q5, rfl, rfl, rfl, h5, r5⟩ := trodAll_cons r4
 obtain ⟨rfl, rfl, rfl⟩ := trodAll_nil r5
 obtain rfl : args = #[v0, v1, v2, v3, v4, v5] := by cases args; simp_all
 obtain ⟨rfl, rfl⟩ := trodVars_none hV
 obtain ⟨h, rfl, hS0⟩ := open_house (hval 0 25 v0 rfl rfl) h0
 obtain ⟨f, rfl, rfl, rfl, w1⟩ := open_int Try.underlying3 (hval 1 3 v1 rfl rfl) h1
 obtain ⟨m, rfl⟩ := open_move (hval 2 27 v2 rfl rfl) h2
 obtain ⟨s, rfl, rfl, rfl, w3⟩ := open_int Try.underlying5 (hval 3 5 v3 rfl rfl) h3
 obtain ⟨r, rfl, rfl, rfl, w4⟩ := open_int Try.underlying5 (hval 4 5 v4 rfl rfl) h4
 obtain ⟨l, rfl, rfl, rfl, w5⟩ := open_int Try.underlying5 (hval 5 5 v5 rfl rfl) h5
 clear hA0 hval0
 simp only [List.append_nil] at hW'
 refine (lawfaster_law h f m s r l (u8_bd w3) (u8_bd w4) (u8_bd w5) W hS0).mono fun e W' ⟨he, hb⟩ => ?_
 subst he
 exact ⟨_, rfl, law_post laidOut (by kernel_rfl) hW' rfl rfl (by kernel_rfl) Try.underlying4 hb⟩

theorem moveFaster_holds : Rows.MoveFasterSaid :=
 OpenClaim.holds_of_wide 5 Try.f5 rfl rfl rfl rfl rfl rfl rfl ⟨rfl, rfl, rfl, rfl, rfl⟩ rfl rfl rfl rfl rfl (by kernel_rfl) Try.func5 (by kernel_rfl)
  (of_decide_eq_true (by kernel_rfl)) (by unfold Func.isWrapper; first | (rw [if_pos (by decide +kernel)]; kernel_rfl) | (rw [if_neg (by decide +kernel)]; exact ⟨rfl, rfl⟩))
  (fun os started H enc _ => moveFaster_lifted os started H enc)
end Go.Proofs.Ytbgkgahmicepdaa
