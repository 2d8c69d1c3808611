/-
  THE WALK of the reference's Curve (34): the cuts.
-/
import Derived.Test.YtlgpolfbilkmbaaRc4
import Derived.Test.YtlgpolfbilkmbaaRc7
import Derived.Test.YtlgpolfbilkmbaaRc12
import Derived.Test.YtlgpolfbilkmbaaRc13
namespace Go.Proofs.Ytlgpolfbilkmbaa
open Go.RowKit Go.Shelf

theorem low_parts {n d : Int} (n0 : -1152921504606846976 ≤ n) (n1 : n ≤ 1152921504606846976) (d0 : 0 < d) (d1 : d ≤ 1152921504606846976) : ∃ p q, lowN n d = p ∧ lowD n d = q ∧ ∀ w : World, Calls Try.prog 51 #[.int .i64 n, .int .i64 d] w fun e w' => e = .returned (.agg #[.int .i64 p, .int .i64 q]) ∧ Below w.heap.size w w' := ⟨_, _, rfl, rfl, rfrac_any n d n0 n1 d0 d1⟩

set_option maxRecDepth 1000000 in
set_option maxHeartbeats 40000000 in
theorem rcurve_pos (d : Int) (m : Mv) (t : Int) (hg : givenP d m = 0) (hd : ¬ d = 0) (ht : IsTop d m.spd m.rise m.fall t) (w : World) :
    Calls Try.prog 18 #[.int .i64 d, .agg #[.string m.name, .int .i64 m.to, .int .i64 m.spd, .int .i64 m.rise, .int .i64 m.fall]] w fun e w' => Hid (∃ v, e = .returned v ∧ w'.ownsRow w.heap.size 70 8 v (curveL d m.rise m.fall t).length (pcflat (curveL d m.rise m.fall t))) ∧ Below w.heap.size w w' := by
  have hd' : (d == 0) = false := by simpa using hd
  obtain ⟨hv, hdd⟩ := given_ok hg
  obtain ⟨V0, V1, R0, R1, F0, F1⟩ := valid_bds hv
  obtain ⟨d1, d2⟩ := inB_iff.1 hdd
  have tp := top_pos (show 1 ≤ d by omega) R0 F0 V0 ht
  obtain ⟨b0, b1, b2, b3, b4, b5, b6, b7, b8, b9, b10, b11⟩ := time_sums hg ht
  have hroom : t * t * (m.rise + m.fall) ≤ 2 * m.rise * m.fall * d := ht.2.2.1
  have hpos : 0 < 2 * m.rise * m.fall * t := Int.mul_pos (posD R0 F0) (by omega)
  have q0 := Int.mul_nonneg (show 0 ≤ 2 * m.fall by omega) (show 0 ≤ t by omega)
  have q1 : 2 * m.fall * t ≤ 32768 * 8192 := Int.mul_le_mul (by omega) b1 (by omega) (by decide)
  have q2 := Int.mul_nonneg q0 (show 0 ≤ t by omega)
  have q3 : 2 * m.fall * t * t ≤ 268435456 * 8192 := Int.mul_le_mul (by omega) b1 (by omega) (by decide)
  have q4 := Int.mul_nonneg (show 0 ≤ 2 * m.fall by omega) d1
  have q5 : 2 * m.fall * d ≤ 32768 * 1048576 := Int.mul_le_mul (by omega) d2 d1 (by decide)
  have s1 : IntKind.i64.wrap (t * t) = t * t := IntWalk.i64_in _ (by omega)
  have s2 : IntKind.i64.wrap (m.rise + m.fall) = m.rise + m.fall := IntWalk.i64_in _ (by omega)
  have s3 : IntKind.i64.wrap (t * t * (m.rise + m.fall)) = t * t * (m.rise + m.fall) := IntWalk.i64_in _ (by omega)
  have s4 : IntKind.i64.wrap (2 * m.rise) = 2 * m.rise := IntWalk.i64_in _ (by omega)
  have s5 : IntKind.i64.wrap (2 * m.rise * m.fall) = 2 * m.rise * m.fall := IntWalk.i64_in _ (by omega)
  have s6 : IntKind.i64.wrap (2 * m.rise * m.fall * d) = 2 * m.rise * m.fall * d := IntWalk.i64_in _ (by omega)
  have s7 : IntKind.i64.wrap (2 * m.rise * m.fall * t) = 2 * m.rise * m.fall * t := IntWalk.i64_in _ (by omega)
  have s8 : IntKind.i64.wrap (2 * m.fall) = 2 * m.fall := IntWalk.i64_in _ (by omega)
  have s9 : IntKind.i64.wrap (2 * m.fall * t) = 2 * m.fall * t := IntWalk.i64_in _ (by omega)
  have s10 : IntKind.i64.wrap (2 * m.fall * t * t) = 2 * m.fall * t * t := IntWalk.i64_in _ (by omega)
  have s11 : IntKind.i64.wrap (2 * m.fall * d) = 2 * m.fall * d := IntWalk.i64_in _ (by omega)
  have s12 : IntKind.i64.wrap (2 * m.fall * d - t * t) = 2 * m.fall * d - t * t := IntWalk.i64_in _ (by omega)
  have s13 : IntKind.i64.wrap (-m.fall) = -m.fall := IntWalk.i64_in _ (by omega)
  obtain ⟨kk, hkk⟩ : ∃ k, kP d m.rise m.fall t = k := ⟨_, rfl⟩
  have hkv : kk = 2 * m.rise * m.fall * d - t * t * (m.rise + m.fall) := hkk.symm
  have s14 : IntKind.i64.wrap (2 * m.rise * m.fall * d - t * t * (m.rise + m.fall)) = kk := by rw [hkv]; exact IntWalk.i64_in _ (by omega)
  have hk0 : 0 ≤ kk := by omega
  obtain ⟨ee, hee⟩ : ∃ k, 2 * m.fall * t * t + kk = k := ⟨_, rfl⟩
  have s15 : IntKind.i64.wrap (2 * m.fall * t * t + kk) = ee := by rw [← hee]; exact IntWalk.i64_in _ (by omega)
  obtain ⟨cn, cd, hcn, hcd, hC7⟩ := low_parts (n := m.rise) (d := 2) (by omega) (by omega) (by omega) (by omega)
  obtain ⟨sn, sd, hsn, hsd, hC8⟩ := low_parts (n := t) (d := m.rise) (by omega) (by omega) (by omega) (by omega)
  obtain ⟨en, ed, hen, hed, hC10⟩ := low_parts (n := ee) (d := 2 * m.rise * m.fall * t) (by omega) (by omega) (by omega) (by omega)
  obtain ⟨rn, rd, hrn, hrd, hC12⟩ := low_parts (n := t * t) (d := 2 * m.rise) (by omega) (by omega) (by omega) (by omega)
  obtain ⟨hn, hd3, hhn, hhd, hC13⟩ := low_parts (n := 2 * m.fall * d - t * t) (d := 2 * m.fall) (by omega) (by omega) (by omega) (by omega)
  obtain ⟨mn, md, hmn, hmd, hD13⟩ := low_parts (n := -m.fall) (d := 2) (by omega) (by omega) (by omega) (by omega)
  have HTm := Lib.hid (rtime_any d m t hg ht)
  have hP := time_pos (t := t) hg hd
  obtain ⟨p1, p2, hPp⟩ : ∃ p1 p2, timeP d m t = (p1, p2) := ⟨_, _, rfl⟩
  rw [hPp] at HTm
  have HL : Hid (curveL d m.rise m.fall t = [⟨0, 1, 0, 1, 0, 1, cn, cd⟩] ++ (if kk = 0 then [] else [⟨sn, sd, rn, rd, t, 1, 0, 1⟩]) ++ [⟨en, ed, hn, hd3, t, 1, mn, md⟩] ++ [⟨p1, p2, d, 1, 0, 1, 0, 1⟩]) := Lib.hid (by
    have e1 : 2 * m.fall * (t * t) = 2 * m.fall * t * t := by ac_rfl
    have e2 : (p1, p2) = (lowN (tN d m.rise m.fall t) (tD m.rise m.fall t), lowD (tN d m.rise m.fall t) (tD m.rise m.fall t)) := by rw [← hPp, hP]
    injection e2 with e3 e4
    have e5 : (2 * m.rise * m.fall * t) = tD m.rise m.fall t := rfl
    unfold curveL
    rw [if_neg hd, time_num, hkk, e1, hee, hcn, hcd, hsn, hsd, hen, hed, hrn, hrd, hhn, hhd, hmn, hmd, e5, ← e3, ← e4]
    split <;> rfl)
  obtain ⟨L, hL⟩ : ∃ L, curveL d m.rise m.fall t = L := ⟨_, rfl⟩
  rw [hL] at HL ⊢
  have HT := Lib.hid (reftop_any d m t hg ht)
  have HC7 := Lib.hid hC7
  have HC8 := Lib.hid hC8
  have HC10 := Lib.hid hC10
  have HC12 := Lib.hid hC12
  have HC13 := Lib.hid hC13
  have HD13 := Lib.hid hD13
  have hk1 : kk = 0 ∨ decide (0 < kk) = true := by
    rcases (show kk = 0 ∨ 0 < kk by omega) with h | h
    · exact .inl h
    · exact .inr (decide_eq_true h)
  clear hd hg ht hv hdd b0 b1 b2 b3 b4 b5 b6 b7 b8 b9 b10 b11 hroom hpos q0 q1 q2 q3 q4 q5 hkk hkv hee hcn hcd hC7 hsn hsd hC8 hen hed hC10 hrn hrd hC12 hhn hhd hC13 hmn hmd hD13 hP hPp hL
  have hM := MvAt.new w m 23
  have hW0 := below_new w (.cells #[.string m.name, .int .i64 m.to, .int .i64 m.spd, .int .i64 m.rise, .int .i64 m.fall] 23)
  have HM := Lib.hid hM
  clear hM
  go_enter Try.func18, Try.ntmps18
  go_upto_region 1 with (fail)
  generalize w.alloc (.cells #[.string m.name, .int .i64 m.to, .int .i64 m.spd, .int .i64 m.rise, .int .i64 m.fall] 23) = WA at *
  go_upto_region 4 with (go_at_call 30; (with_reducible refine (of_any 0 _).mono ?_); rintro e w1 ⟨rfl, hb1⟩)
  have b1 : Below WA.heap.size WA (w1.alloc (.cells #[.int .i64 0, .int .i64 1] 39)) := below_a _ hb1
  have h5 := C2.new w1 (.int .i64 0) (.int .i64 1) 39
  have hM := HM.out.carry b1
  have hW1 := hW0.trans (b1.mono hW0.size)
  clear HM hb1 b1 hW0
  generalize w1.alloc (.cells #[.int .i64 0, .int .i64 1] 39) = W0 at *
  generalize w1.heap.size = B5 at *
  have HS2 : Hid (∀ w', Below W0.heap.size W0 w' → Below W0.heap.size W0 w' ∧ w'.cell? ⟨w.heap.size, 0, none⟩ = some (.string m.name) ∧ w'.cell? ⟨w.heap.size, 1, none⟩ = some (.int .i64 m.to) ∧ w'.cell? ⟨w.heap.size, 2, none⟩ = some (.int .i64 m.spd) ∧ w'.cell? ⟨w.heap.size, 3, none⟩ = some (.int .i64 m.rise) ∧ w'.cell? ⟨w.heap.size, 4, none⟩ = some (.int .i64 m.fall) ∧ w'.cell? ⟨B5, 0, none⟩ = some (.int .i64 0) ∧ w'.cell? ⟨B5, 1, none⟩ = some (.int .i64 1)) := Lib.hid fun w' h => ⟨h, (hM.carry h).1, (hM.carry h).2.1, (hM.carry h).2.2.1, (hM.carry h).2.2.2.1, (hM.carry h).2.2.2.2, (h5.carry h).1, (h5.carry h).2⟩
  refine rc4 HS2 HTm ?_
  intro u6 u13 u14 u15 u16 u17 u18 u19 u20 u21 u22 u23 u24 u25 u26 u27 u28 u29 u30 u31 u32 u33 u34 u35 u36 u37 u38 u39 u40 u41 u42 u43 u44 u45 u46 u47 u48 u49 u50 u51 u52 u53 u54 u55 u56 u57 u58 u59 u60 u61 u62 u63 u64 u65 u66 u67 u68 u69 u70 u71 u72 u73 u74 u75 u76 u77 u78 u79 u80 u81 u82 u83 u84 u85 u86 u87 u88 u89 u90 u91 u92 u93 u94 u95 u96 u97 u98 u99 u100 u101 u102 u103 u104 u105 u106 u107 u108 u109 u110 u111 u112 u113 u114 u115 u116 u117 u118 u119 u120 u121 u122 u123 u124 u125 wc hcut
  obtain ⟨B6, rfl, hB, h6⟩ := hcut
  have h5 := h5.carry hB
  have hM := hM.carry hB
  have hW1 := hW1.trans (hB.mono hW1.size)
  clear HS2 hB
  obtain ⟨W1, rfl⟩ : ∃ W : World, W = wc := ⟨_, rfl⟩
  have H5 := Lib.hid h5
  have H6 := Lib.hid h6
  have HM := Lib.hid hM
  obtain ⟨k0, k1, k2, k3, k4⟩ := hM
  clear h5 h6
  go_upto_region 6 with (go_at_call 15; (with_reducible refine (HT.out _).mono ?_); rintro e w2 ⟨rfl, hb2⟩)
  go_upto_region 7 with (go_at_call 30; (with_reducible refine (of_any t _).mono ?_); rintro e w3 ⟨rfl, hb3⟩)
  have b2 : Below W1.heap.size W1 (w3.alloc (.cells #[.int .i64 t, .int .i64 1] 39)) := below_a _ (held_next hb2 hb3)
  have h8 := C2.new w3 (.int .i64 t) (.int .i64 1) 39
  have h5 := H5.out.carry b2
  have h6 := H6.out.carry b2
  have hM := HM.out.carry b2
  have hWb := hW1.trans (b2.mono hW1.size)
  clear H5 H6 HM hb2 hb3 b2 hW1 k0 k1 k2 k3 k4
  generalize w3.alloc (.cells #[.int .i64 t, .int .i64 1] 39) = Wb at *
  generalize w3.heap.size = B8 at *
  have HS2 : Hid (∀ w', Below Wb.heap.size Wb w' → Below Wb.heap.size Wb w' ∧ w'.cell? ⟨w.heap.size, 3, none⟩ = some (.int .i64 m.rise) ∧ w'.cell? ⟨B5, 0, none⟩ = some (.int .i64 0) ∧ w'.cell? ⟨B5, 1, none⟩ = some (.int .i64 1)) := Lib.hid fun w' h => ⟨h, (hM.carry h).2.2.2.1, (h5.carry h).1, (h5.carry h).2⟩
  refine rc7 HS2 HC7 ?_
  intro u9 u13 u14 u15 u16 u17 u18 u19 u20 u21 u22 u23 u24 u25 u26 u27 u28 u29 u30 u31 u32 u33 u34 u35 u36 u37 u38 u39 u40 u41 u42 u43 u44 u45 u46 u47 u48 u49 u50 u51 u52 u53 u54 u55 u56 u57 u58 u59 u60 u61 u62 u63 u64 u65 u66 u67 u68 u69 u70 u71 u72 u73 u74 u75 u76 u77 u78 u79 u80 u81 u82 u83 u84 u85 u86 u87 u88 u89 u90 u91 u92 u93 u94 u95 u96 u97 u98 u99 u100 u101 u102 u103 u104 u105 u106 u107 u108 u109 u110 u111 u112 u113 u114 u115 u116 u117 u118 u119 u120 u121 u122 u123 u124 u125 wc hcut
  obtain ⟨HR, hB⟩ := hcut
  obtain ⟨r9, rfl⟩ : ∃ x : Value, x = u9 := ⟨_, rfl⟩
  obtain ⟨W3, rfl⟩ : ∃ W : World, W = wc := ⟨_, rfl⟩
  have H5 := Lib.hid h5
  have H6 := Lib.hid h6
  have H8 := Lib.hid h8
  have HM := Lib.hid hM
  clear HS2 h5 h6 h8 hM
  obtain ⟨k0, k1, k2, k3, k4⟩ := HM.out.carry hB
  go_upto_region 10 with (go_at_call 51; (with_reducible refine (HC8.out _).mono ?_); rintro e w4 ⟨rfl, hb4⟩; clear k0 k1 k2 k3 k4; obtain ⟨k0, k1, k2, k3, k4⟩ := HM.out.carry (held_next hB hb4); have kz := World.block_lt_of_cell? _ _ k0)
  have b4 : Below W3.heap.size W3 (w4.alloc (.cells #[.int .i64 sn, .int .i64 sd] 39)) := below_a _ hb4
  have h10 := C2.new w4 (.int .i64 sn) (.int .i64 sd) 39
  have hB4 := held_next hB b4
  have HR4 := Lib.hid (ownsRow_below HR.out b4)
  have HROW : Hid (∀ k, r9.ownBlock = some k → Wb.heap.size ≤ k ∧ k < w4.heap.size) := Lib.hid fun k e => ⟨(HR.out.lt k e).1, Nat.lt_of_lt_of_le (HR.out.lt k e).2 hb4.size⟩
  clear HR hb4 hB b4 k0 k1 k2 k3 k4 kz
  generalize w4.alloc (.cells #[.int .i64 sn, .int .i64 sd] 39) = W4 at *
  generalize w4.heap.size = B10 at *
  have H10 := Lib.hid h10
  clear h10
  obtain ⟨k0, k1, k2, k3, k4⟩ := HM.out.carry hB4
  go_upto_region 11 with (go_at_call 51; (with_reducible refine (HC10.out _).mono ?_); rintro e w5 ⟨rfl, hb5⟩)
  have b5 : Below W4.heap.size W4 (w5.alloc (.cells #[.int .i64 en, .int .i64 ed] 39)) := below_a _ hb5
  have h12 := C2.new w5 (.int .i64 en) (.int .i64 ed) 39
  have h10 := H10.out.carry b5
  have hB5 := held_next hB4 b5
  have HR := Lib.hid (ownsRow_below HR4.out b5)
  have hlt12 : B10 < w5.heap.size := Nat.lt_of_lt_of_le (World.block_lt_of_cell? _ _ H10.out.1) hb5.size
  clear HR4 hb5 hB4 b5 k0 k1 k2 k3 k4 H10
  generalize w5.alloc (.cells #[.int .i64 en, .int .i64 ed] 39) = W5 at *
  generalize w5.heap.size = B12 at *
  have H10 := Lib.hid h10
  have H12 := Lib.hid h12
  clear h10 h12
  have z5 : B5 < Wb.heap.size := World.block_lt_of_cell? _ _ H5.out.1
  have z8 : B8 < Wb.heap.size := World.block_lt_of_cell? _ _ H8.out.1
  have zm : w.heap.size < Wb.heap.size := World.block_lt_of_cell? _ _ HM.out.1
  have hnem : some w.heap.size ≠ r9.ownBlock := fun e => by have := HROW.out _ e.symm; omega
  have hne5 : some B5 ≠ r9.ownBlock := fun e => by have := HROW.out _ e.symm; omega
  have hne8 : some B8 ≠ r9.ownBlock := fun e => by have := HROW.out _ e.symm; omega
  have hne10 : some B10 ≠ r9.ownBlock := fun e => by have := HROW.out _ e.symm; omega
  have hne12 : some B12 ≠ r9.ownBlock := fun e => by have := HROW.out _ e.symm; omega
  clear HROW hlt12
  go_upto_if 84 with (fail)
  go_cut [9] (fun v wx => Hid (∃ M : List Pc, M = [⟨0, 1, 0, 1, 0, 1, cn, cd⟩] ++ (if kk = 0 then [] else [⟨sn, sd, rn, rd, t, 1, 0, 1⟩]) ∧ wx.ownsRow Wb.heap.size 70 8 v M.length (pcflat M)) ∧ Below Wb.heap.size Wb wx ∧ C2 wx B12 (.int .i64 en) (.int .i64 ed) ∧ some B12 ≠ v.ownBlock)
  case first =>
    rcases hk1 with hk | hk
    · have hk2 : decide (0 < kk) = false := by rw [hk]; rfl
      have hk3 : kk ≤ 0 := by omega
      have HK := Lib.hid hk
      clear hk
      go_wp2_with fail
      go_meet
      exact ⟨Lib.hid ⟨_, rfl, by rw [if_pos HK.out]; exact HR.out⟩, hB5, H12.out, hne12⟩
    · have HK : Hid (¬ kk = 0) := Lib.hid (by have := of_decide_eq_true hk; omega)
      have hk3 : 0 < kk := of_decide_eq_true hk
      go_upto_region 12 with (fail)
      have HS2 : Hid (∀ w', Below W5.heap.size W5 w' → Below Wb.heap.size Wb w' ∧ w'.cell? ⟨w.heap.size, 3, none⟩ = some (.int .i64 m.rise) ∧ w'.cell? ⟨B5, 0, none⟩ = some (.int .i64 0) ∧ w'.cell? ⟨B5, 1, none⟩ = some (.int .i64 1) ∧ w'.cell? ⟨B8, 0, none⟩ = some (.int .i64 t) ∧ w'.cell? ⟨B8, 1, none⟩ = some (.int .i64 1) ∧ w'.cell? ⟨B10, 0, none⟩ = some (.int .i64 sn) ∧ w'.cell? ⟨B10, 1, none⟩ = some (.int .i64 sd) ∧ w'.cell? ⟨B12, 0, none⟩ = some (.int .i64 en) ∧ w'.cell? ⟨B12, 1, none⟩ = some (.int .i64 ed)) := Lib.hid fun w' h => ⟨held_next hB5 h, ((HM.out.carry (held_next hB5 h))).2.2.2.1, (H5.out.carry (held_next hB5 h)).1, (H5.out.carry (held_next hB5 h)).2, (H8.out.carry (held_next hB5 h)).1, (H8.out.carry (held_next hB5 h)).2, (H10.out.carry h).1, (H10.out.carry h).2, (H12.out.carry h).1, (H12.out.carry h).2⟩
      refine rc12 HS2 HC12 s1 s4 HR hnem hne5 hne8 hne10 hne12 ?_
      intro u9 u13 u14 u15 u16 u17 u18 u19 u20 u21 u22 u23 u24 u25 u26 u27 u28 u29 u30 u31 u32 u33 u34 u35 u36 u37 u38 u39 u40 u41 u42 u43 u44 u45 u46 u47 u48 u49 u50 u51 u52 u53 u54 u55 u56 u57 u58 u59 u60 u61 u62 u63 u64 u65 u66 u67 u68 u69 u70 u71 u72 u73 u74 u75 u76 u77 u78 u79 u80 u81 u82 u83 u84 u85 u86 u87 u88 u89 u90 u91 u92 u93 u94 u95 u96 u97 u98 u99 u100 u101 u102 u103 u104 u105 u106 u107 u108 u109 u110 u111 u112 u113 u114 u115 u116 u117 u118 u119 u120 u121 u122 u123 u124 u125 wc hcut
      go_wp2_with fail
      go_meet
      exact ⟨Lib.hid ⟨_, rfl, by rw [if_neg HK.out]; exact hcut.1.out⟩, hcut.2⟩
  case rest =>
    obtain ⟨HM2, hB6, h12, hne12'⟩ := hcut
    clear HR hnem hne5 hne8 hne10 hne12 H10 H12 hB5 hk1
    obtain ⟨r20, rfl⟩ : ∃ x : Value, x = u9 := ⟨_, rfl⟩
    obtain ⟨W6, rfl⟩ : ∃ W : World, W = wc := ⟨_, rfl⟩
    obtain ⟨M, hMM, hMo⟩ := HM2.out
    have HR := Lib.hid hMo
    have hMl : M.length ≤ 2 := by rw [hMM]; split <;> simp
    have HMM := Lib.hid hMM
    have hnem : some w.heap.size ≠ r20.ownBlock := fun e => by have := hMo.lt _ e.symm; omega
    have hne8 : some B8 ≠ r20.ownBlock := fun e => by have := hMo.lt _ e.symm; omega
    clear hMM hMo HM2
    go_upto_region 13 with (fail)
    have HS2 : Hid (∀ w', Below W6.heap.size W6 w' → Below Wb.heap.size Wb w' ∧ w'.cell? ⟨w.heap.size, 4, none⟩ = some (.int .i64 m.fall) ∧ w'.cell? ⟨B8, 0, none⟩ = some (.int .i64 t) ∧ w'.cell? ⟨B8, 1, none⟩ = some (.int .i64 1) ∧ w'.cell? ⟨B12, 0, none⟩ = some (.int .i64 en) ∧ w'.cell? ⟨B12, 1, none⟩ = some (.int .i64 ed)) := Lib.hid fun w' h => ⟨held_next hB6 h, ((HM.out.carry (held_next hB6 h))).2.2.2.2, (H8.out.carry (held_next hB6 h)).1, (H8.out.carry (held_next hB6 h)).2, (h12.carry h).1, (h12.carry h).2⟩
    refine rc13 HS2 HC13 HD13 s8 s11 s1 s12 s13 hMl HR hnem hne8 hne12' ?_
    intro u9 u13 u14 u15 u16 u17 u18 u19 u20 u21 u22 u23 u24 u25 u26 u27 u28 u29 u30 u31 u32 u33 u34 u35 u36 u37 u38 u39 u40 u41 u42 u43 u44 u45 u46 u47 u48 u49 u50 u51 u52 u53 u54 u55 u56 u57 u58 u59 u60 u61 u62 u63 u64 u65 u66 u67 u68 u69 u70 u71 u72 u73 u74 u75 u76 u77 u78 u79 u80 u81 u82 u83 u84 u85 u86 u87 u88 u89 u90 u91 u92 u93 u94 u95 u96 u97 u98 u99 u100 u101 u102 u103 u104 u105 u106 u107 u108 u109 u110 u111 u112 u113 u114 u115 u116 u117 u118 u119 u120 u121 u122 u123 u124 u125 wc hcut
    obtain ⟨HRF, hBf⟩ := hcut
    clear HS2 HR hnem hne8 hne12' h12
    obtain ⟨r21, rfl⟩ : ∃ x : Value, x = u9 := ⟨_, rfl⟩
    obtain ⟨W7, rfl⟩ : ∃ W : World, W = wc := ⟨_, rfl⟩
    have hz7 := hBf.size
    obtain ⟨c0, c1, c2, c3, c4, c5, c6, c7⟩ := H6.out.carry hBf
    obtain ⟨M2, hM2⟩ : ∃ M2 : List Pc, M ++ ([⟨en, ed, hn, hd3, t, 1, mn, md⟩] : List Pc) = M2 := ⟨_, rfl⟩
    have hM2l : M2.length ≤ 3 := by rw [← hM2]; simp; omega
    rw [hM2] at HRF
    have HE : Hid (L = M2 ++ [⟨p1, p2, d, 1, 0, 1, 0, 1⟩]) := Lib.hid (by rw [HL.out, ← hM2, HMM.out])
    clear hM2
    go_wp2_with (at_builtin; refine pc_append rfl _ _ rfl Wb.heap.size _ M2 rfl (HRF.out.alloc _) _ ⟨p1, p2, d, 1, 0, 1, 0, 1⟩ rfl (C8.new _ _ _ _ _ _ _ _ _ _) (by omega) (by first | omega | (simp; omega)) ?_; intro v5 w5 hown5 hg5; have hBn : Below Wb.heap.size Wb w5 := (below_a _ hBf).grown hg5 (by simp <;> omega) (fun k e => (HRF.out.lt k e).1))
    go_ret
    refine ⟨Lib.hid ⟨_, rfl, ?_⟩, hWb.trans (hBn.mono hWb.size)⟩
    rw [HE.out]
    exact own_base hown5 hWb.size
end Go.Proofs.Ytlgpolfbilkmbaa
