/-
  THE WALK of bits.Div64 (a long division of two words by one).
  THE WALKS of bits.Div64 and ratio.over in general.
-/
import Derived.Lib.ItoaNum
import Derived.Deep.DeepCutAuto
import Derived.Deep.CutBlock
import Derived.Test.YtbgkgahmicepdaaZ12
namespace Go.Proofs.Ytbgkgahmicepdaa
open Go.RowKit Go.Shelf
theorem bit_norm (v : Nat) (h0 : 0 < v) (h1 : v < 18446744073709551616) : ∃ s : Nat, s ≤ 63 ∧ (64 : Int) - (Lib.bitLen v : Int) = (s : Int) ∧ 9223372036854775808 ≤ (v : Int) * 2 ^ s ∧ (v : Int) * 2 ^ s < 18446744073709551616 := by
 obtain ⟨a, b, c⟩ := Lib.bitLenAux_bounds 64 v (by omega) (by omega)
 have hL : Lib.bitLen v ≤ 64 := Lib.bitLen_le v 64 (Nat.le_refl _) (by omega)
 unfold Lib.bitLen at hL ⊢
 generalize Lib.bitLenAux 64 v = L at *
 refine ⟨64 - L, by omega, by omega, ?_, ?_⟩
 ·have e : ((v * 2 ^ (64 - L) : Nat) : Int) = (v : Int) * 2 ^ (64 - L) := by rw [Int.natCast_mul, Int.natCast_pow]; rfl
  rw [← e]
  have : 2 ^ (L - 1) * 2 ^ (64 - L) ≤ v * 2 ^ (64 - L) := Nat.mul_le_mul_right _ b
  rw [← Nat.pow_add, show L - 1 + (64 - L) = 63 by omega] at this
  omega
 ·have e : ((v * 2 ^ (64 - L) : Nat) : Int) = (v : Int) * 2 ^ (64 - L) := by rw [Int.natCast_mul, Int.natCast_pow]; rfl
  rw [← e]
  have : v * 2 ^ (64 - L) < 2 ^ L * 2 ^ (64 - L) := Nat.mul_lt_mul_of_pos_right c (Nat.two_pow_pos _)
  rw [← Nat.pow_add, show L + (64 - L) = 64 by omega] at this
  omega
set_option maxRecDepth 100000 in
set_option maxHeartbeats 16000000 in
theorem div64_any (hi lo v : Int) (hi0 : 1 ≤ hi) (hv : hi < v) (v1 : v < 18446744073709551616) (l0 : 0 ≤ lo) (l1 : lo < 18446744073709551616) (w : World) :
  Calls Try.prog 74 #[.int .u64 hi, .int .u64 lo, .int .u64 v] w fun e w' => e = .returned (.tuple #[.int .u64 ((hi * 18446744073709551616 + lo) / v), .int .u64 ((hi * 18446744073709551616 + lo) % v)]) ∧ w = w' := by
 obtain ⟨V, rfl⟩ := Int.eq_ofNat_of_zero_le (show 0 ≤ v by omega)
 obtain ⟨s, hs, hs2, n1, n2⟩ := bit_norm V (by omega) (by omega)
 have hcl : ∀ w, Calls Try.prog 86 #[.int .u64 (V : Int)] w fun e w' => e = .returned (.int .i64 (s : Int)) ∧ w = w' := fun w => by
  have := Try.bits_LeadingZeros64 (V : Int) w (by omega) (by omega)
  rw [Int.toNat_natCast, hs2] at this
  exact this.mono fun e w' h => ⟨h.1, h.2.symm⟩
 have hP : (0 : Int) < 2 ^ s := Int.pow_pos (by decide)
 have hQ : (0 : Int) < 2 ^ (64 - s) := Int.pow_pos (by decide)
 have hPQ := pow_split (s := s) (by omega)
 obtain ⟨h1, h2⟩ := norm_hi hP (show 0 ≤ hi by omega) hv
 obtain ⟨r0, r1, r2⟩ := norm_lo hP hQ hPQ l0 l1
 have hall := norm_all (hi := hi) hP hQ hPQ l0 l1
 obtain ⟨t, ht⟩ : ∃ t, 64 - s = t := ⟨_, rfl⟩
 have z1 : (64 : Int) - (s : Int) = (t : Int) := by omega
 have z2 : (0 : Int) ≤ s ∧ (s : Int) ≤ 64 := by omega
 have z3 : (0 : Int) ≤ t ∧ (t : Int) ≤ 64 := by omega
 rw [ht] at hall hQ hPQ r0 r1
 have hor := or_join hi (lo / 2 ^ t) s (by omega) r0 r1 (by omega)
 obtain ⟨Y, hY⟩ : ∃ Y, (V : Int) * 2 ^ s = Y := ⟨_, rfl⟩
 obtain ⟨A, hA⟩ : ∃ A, hi * 2 ^ s = A := ⟨_, rfl⟩
 obtain ⟨R, hR⟩ : ∃ R, lo / 2 ^ t = R := ⟨_, rfl⟩
 obtain ⟨X, hX⟩ : ∃ X, lo * 2 ^ s % 18446744073709551616 = X := ⟨_, rfl⟩
 obtain ⟨U, hU⟩ : ∃ U, A + R = U := ⟨_, rfl⟩
 rw [hY] at n1 n2 h2
 rw [hA] at h1 h2 hall hor
 rw [hR] at r0 r1 hall hor
 rw [hX] at hall
 rw [hU] at hall hor
 have u1 : IntKind.u64.wrap ((V : Int) * 2 ^ s) = Y := by rw [hY, IntKind.wrap_u64]; omega
 have u2 : IntKind.u64.wrap (hi * 2 ^ s) = A := by rw [hA, IntKind.wrap_u64]; omega
 have u3 : IntKind.u64.wrap (lo * 2 ^ s) = X := by rw [IntKind.wrap_u64]; exact hX
 have x0 : 0 ≤ X ∧ X < 18446744073709551616 := by omega
 have u0 : 0 ≤ U := by omega
 have huY : U < Y := by omega
 obtain ⟨y1, hy1⟩ : ∃ y, Y / 4294967296 = y := ⟨_, rfl⟩
 obtain ⟨y0, hy0⟩ : ∃ y, Y % 4294967296 = y := ⟨_, rfl⟩
 obtain ⟨x1, hx1⟩ : ∃ y, X / 4294967296 = y := ⟨_, rfl⟩
 obtain ⟨x2, hx2⟩ : ∃ y, X % 4294967296 = y := ⟨_, rfl⟩
 have u4 := and_half Y (by omega) n2
 have u5 := and_half X x0.1 x0.2
 rw [hy0] at u4
 rw [hx2] at u5
 have hYY : y1 * 4294967296 + y0 = Y := by omega
 have hy00 : 0 ≤ y0 := by omega
 have hy01 : y0 < 4294967296 := by omega
 have hy10 : 0 < y1 := by omega
 have hy11 : 2147483648 ≤ y1 := by omega
 have hy12 : y1 < 4294967296 := by omega
 have hx10 : 0 ≤ x1 := by omega
 have hx11 : x1 < 4294967296 := by omega
 have hx20 : 0 ≤ x2 := by omega
 have hx21 : x2 < 4294967296 := by omega
 have hyp : 0 < y1 * 4294967296 + y0 := by omega
 have huU : U < y1 * 4294967296 + y0 := by omega
 rw [hx1, hx2] at hall
 obtain ⟨Q1, hQ1⟩ : ∃ q, (U * 4294967296 + x1) / Y = q := ⟨_, rfl⟩
 obtain ⟨U2, hU2⟩ : ∃ q, (U * 4294967296 + x1) % Y = q := ⟨_, rfl⟩
 obtain ⟨Q0, hQ0⟩ : ∃ q, (U2 * 4294967296 + x2) / Y = q := ⟨_, rfl⟩
 obtain ⟨R2, hR2⟩ : ∃ q, (U2 * 4294967296 + x2) % Y = q := ⟨_, rfl⟩
 obtain ⟨fin1, fin2⟩ := two_digits hP (show (0 : Int) < V by omega) hY.symm hall hQ1.symm hU2.symm hQ0.symm hR2.symm
 have b1 : 0 ≤ U2 := by rw [← hU2]; exact Int.emod_nonneg _ (by omega)
 have b2 : U2 < Y := by rw [← hU2]; exact Int.emod_lt_of_pos _ (by omega)
 have b3 : 0 ≤ R2 := by rw [← hR2]; exact Int.emod_nonneg _ (by omega)
 have b4 : R2 < Y := by rw [← hR2]; exact Int.emod_lt_of_pos _ (by omega)
 have huU2 : U2 < y1 * 4294967296 + y0 := by omega
 have q1a := dig_nonneg (d := x1) hyp u0 hx10
 have q1b := dig_lt (d := x1) hyp huU hx11
 have q0a := dig_nonneg (d := x2) hyp b1 hx20
 have q0b := dig_lt (d := x2) hyp huU2 hx21
 have e1 := Int.mul_ediv_add_emod (U * 4294967296 + x1) Y
 have e0 := Int.mul_ediv_add_emod (U2 * 4294967296 + x2) Y
 rw [hQ1, hU2] at e1
 rw [hQ0, hR2] at e0
 have D1 := Dig.start hy11 hy12 hy00 hy01 u0 huU hx10 hx11
 have D2 := Dig.start hy11 hy12 hy00 hy01 b1 huU2 hx20 hx21
 rw [hYY] at q1a q1b q0a q0b
 rw [hQ1] at q1a q1b
 rw [hQ0] at q0a q0b
 have HQ1 : (U * 4294967296 + x1) / (y1 * 4294967296 + y0) = Q1 := by rw [hYY, hQ1]
 have HQ0 : (U2 * 4294967296 + x2) / (y1 * 4294967296 + y0) = Q0 := by rw [hYY, hQ0]
 obtain ⟨K1, hK1⟩ : ∃ k, U / y1 = k := ⟨_, rfl⟩
 obtain ⟨K2, hK2⟩ : ∃ k, U2 / y1 = k := ⟨_, rfl⟩
 rw [hK1] at D1
 rw [hK2] at D2
 have k1a : 0 ≤ K1 ∧ K1 * y1 ≤ U := by rw [← hK1]; exact ⟨Int.ediv_nonneg u0 (by omega), Int.ediv_mul_le _ (by omega)⟩
 have k2a : 0 ≤ K2 ∧ K2 * y1 ≤ U2 := by rw [← hK2]; exact ⟨Int.ediv_nonneg b1 (by omega), Int.ediv_mul_le _ (by omega)⟩
 have k1m : 0 ≤ K1 * y1 := Int.mul_nonneg k1a.1 (by omega)
 have k2m : 0 ≤ K2 * y1 := Int.mul_nonneg k2a.1 (by omega)
 have k1h := D1.high
 have k2h := D2.high
 obtain ⟨M1, hM1⟩ : ∃ m, K1 * y1 = m := ⟨_, rfl⟩
 obtain ⟨M2, hM2⟩ : ∃ m, K2 * y1 = m := ⟨_, rfl⟩
 rw [hM1] at D1 k1a k1m
 rw [hM2] at D2 k2a k2m
 have HD1 := Lib.hid D1
 have HD2 := Lib.hid D2
 have v0 : (y1 == 0) = false := beq_eq_false_iff_ne.2 (by omega)
 have v1' : IntKind.u64.wrap (U.tdiv y1) = K1 := by rw [Int.tdiv_eq_ediv_of_nonneg u0, hK1, IntKind.wrap_u64]; omega
 have v2 : IntKind.u64.wrap (K1 * y1) = M1 := by rw [hM1, IntKind.wrap_u64]; omega
 have v3 : IntKind.u64.wrap (U - M1) = U - M1 := by rw [IntKind.wrap_u64]; omega
 have v4 : IntKind.u64.wrap (U2.tdiv y1) = K2 := by rw [Int.tdiv_eq_ediv_of_nonneg b1, hK2, IntKind.wrap_u64]; omega
 have v5 : IntKind.u64.wrap (K2 * y1) = M2 := by rw [hM2, IntKind.wrap_u64]; omega
 have v6 : IntKind.u64.wrap (U2 - M2) = U2 - M2 := by rw [IntKind.wrap_u64]; omega
 obtain ⟨c1, hc1⟩ : ∃ c, IntKind.u64.wrap (U * 4294967296) = c := ⟨_, rfl⟩
 obtain ⟨c2, hc2⟩ : ∃ c, IntKind.u64.wrap (c1 + x1) = c := ⟨_, rfl⟩
 obtain ⟨c3, hc3⟩ : ∃ c, IntKind.u64.wrap (Q1 * Y) = c := ⟨_, rfl⟩
 have v7 : IntKind.u64.wrap (c2 - c3) = U2 := by
  rw [← hc3, ← hc2, ← hc1, IntKind.wrap_u64, IntKind.wrap_u64, IntKind.wrap_u64, IntKind.wrap_u64, Int.mul_comm Q1 Y]
  generalize Y * Q1 = T at *
  omega
 obtain ⟨d1, hd1⟩ : ∃ c, IntKind.u64.wrap (U2 * 4294967296) = c := ⟨_, rfl⟩
 obtain ⟨d2, hd2⟩ : ∃ c, IntKind.u64.wrap (d1 + x2) = c := ⟨_, rfl⟩
 obtain ⟨d3, hd3⟩ : ∃ c, IntKind.u64.wrap (Q0 * Y) = c := ⟨_, rfl⟩
 have v8 : IntKind.u64.wrap (d2 - d3) = R2 := by
  rw [← hd3, ← hd2, ← hd1, IntKind.wrap_u64, IntKind.wrap_u64, IntKind.wrap_u64, IntKind.wrap_u64, Int.mul_comm Q0 Y]
  generalize Y * Q0 = T at *
  omega
 have v9 : IntKind.u64.wrap (Q1 * 4294967296) = Q1 * 4294967296 := by rw [IntKind.wrap_u64]; omega
 have v10 : IntKind.u64.wrap (Q1 * 4294967296 + Q0) = Q1 * 4294967296 + Q0 := by rw [IntKind.wrap_u64]; omega
 have w1 : ((V : Int) == 0) = false := beq_eq_false_iff_ne.2 (by omega)
 have w2 : (V == 0) = false := beq_eq_false_iff_ne.2 (by omega)
 have w3 : decide ((V : Int) ≤ hi) = false := decide_eq_false (by omega)
 have w4 : (hi == 0) = false := beq_eq_false_iff_ne.2 (by omega)
 have w5 : IntKind.u64.wrap (s : Int) = (s : Int) := by rw [IntKind.wrap_u64]; omega
 have w6 : IntKind.u64.wrap ((64 : Int) - (s : Int)) = (t : Int) := by rw [z1, IntKind.wrap_u64]; omega
 have HF1 := Lib.hid fin1
 have HF2 := Lib.hid fin2
 have HCL := Lib.hid hcl
 have HQQ1 := Lib.hid HQ1
 have HQQ0 := Lib.hid HQ0
 clear hs2 fin1 fin2 hcl HQ1 HQ0 hall hQ1 hU2 hQ0 hR2 hK1 hK2 hM1 hM2 D1 D2 e1 e0 hY hA hU hYY h1 h2 hP hQ hPQ r2 z1 ht
 go_enter Try.func74, Try.ntmps74
 go_upto_block 0 with (go_at_call 86; (with_reducible refine (HCL.out _).mono ?_); rintro e w' ⟨rfl, rfl⟩)
 go_cut [15] (fun v wx => v = .int .u64 Q1 ∧ w = wx)
 case first =>
  have HD0 := HD1
  go_wp2_with fail
  go_loop [15, 16] (fun a b => ∃ k r : Int, a = .int .u64 k ∧ b = .int .u64 r ∧ Hid (Dig U y1 y0 x1 k r)) (fun a _ => (intOf a).toNat)
  case atStart => exact ⟨_, _, rfl, rfl, HD0⟩
  case round =>
   obtain ⟨k, r, rfl, rfl, HD⟩ := hrel
   have hlow := HD.out.low
   rw [HQQ1.out] at hlow
   have hk0 : 0 ≤ k := by omega
   obtain ⟨p0, p1, p2, p3⟩ := HD.out.small hk0 hy00 hy01 hx10 hx11
   have hr0 := HD.out.pos
   have hr1 := HD.out.less
   have hkh := HD.out.high
   obtain ⟨p, hp⟩ : ∃ p, k * y0 = p := ⟨_, rfl⟩
   have HPK := Lib.hid hp
   rw [hp] at p0 p1
   have t1 : IntKind.u64.wrap (k * y0) = p := by rw [hp, IntKind.wrap_u64]; omega
   have t2 : IntKind.u64.wrap (4294967296 * r) = 4294967296 * r := by rw [IntKind.wrap_u64]; omega
   have t3 : IntKind.u64.wrap (4294967296 * r + x1) = 4294967296 * r + x1 := by rw [IntKind.wrap_u64]; omega
   have t4 : IntKind.u64.wrap (r + y1) = r + y1 := by rw [IntKind.wrap_u64]; omega
   clear hp
   by_cases hc : 4294967296 ≤ k ∨ 4294967296 * r + x1 < p
   ·have hpr := HD.out.pred hyp huU hx11 (by rw [HPK.out]; exact hc)
    rw [HQQ1.out] at hpr
    have t5 : IntKind.u64.wrap (k - 1) = k - 1 := by rw [IntKind.wrap_u64]; omega
    by_cases hr : r + y1 < 4294967296
    ·have HN := Lib.hid (HD.out.next hy10 hyp huU hx11 (by rw [HPK.out]; exact hc) hr)
     have g3 : decide (4294967296 ≤ r + y1) = false := decide_eq_false (by omega)
     by_cases h1 : 4294967296 ≤ k
     ·have g1 : decide (4294967296 ≤ k) = true := decide_eq_true h1
      clear hc
      go_wp2_with fail
      go_round
      case rel => exact ⟨_, _, rfl, rfl, HN⟩
      case measure => simp [intOf]; omega
     ·have g1 : decide (4294967296 ≤ k) = false := decide_eq_false h1
      have g2 : decide (4294967296 * r + x1 < p) = true := decide_eq_true (by omega)
      clear hc
      go_wp2_with fail
      go_round
      case rel => exact ⟨_, _, rfl, rfl, HN⟩
      case measure => simp [intOf]; omega
    ·have ho := HD.out.out hyp huU hy00 hy01 hx10 hx11 (by rw [HPK.out]; exact hc) (by omega)
     rw [HQQ1.out] at ho
     have HO := Lib.hid ho
     have g3 : decide (4294967296 ≤ r + y1) = true := decide_eq_true (by omega)
     clear ho hpr
     by_cases h1 : 4294967296 ≤ k
     ·have g1 : decide (4294967296 ≤ k) = true := decide_eq_true h1
      clear hc
      go_wp2_with fail
      go_meet
      exact ⟨by rw [HO.out], rfl⟩
     ·have g1 : decide (4294967296 ≤ k) = false := decide_eq_false h1
      have g2 : decide (4294967296 * r + x1 < p) = true := decide_eq_true (by omega)
      clear hc
      go_wp2_with fail
      go_meet
      exact ⟨by rw [HO.out], rfl⟩
   ·have ho := HD.out.done hyp (by rw [HPK.out]; omega)
    rw [HQQ1.out] at ho
    have HO := Lib.hid ho
    have g1 : decide (4294967296 ≤ k) = false := decide_eq_false (by omega)
    have g2 : decide (4294967296 * r + x1 < p) = false := decide_eq_false (by omega)
    clear ho hc
    go_wp2_with fail
    go_meet
    exact ⟨by rw [HO.out], rfl⟩
 case rest =>
  obtain ⟨rfl, rfl⟩ := hcut
  go_upto_block 2 with (fail)
  go_cut [18] (fun v wx => v = .int .u64 Q0 ∧ w = wx)
  case first =>
   have HD0 := HD2
   go_wp2_with fail
   go_loop [18, 16] (fun a b => ∃ k r : Int, a = .int .u64 k ∧ b = .int .u64 r ∧ Hid (Dig U2 y1 y0 x2 k r)) (fun a _ => (intOf a).toNat)
   case atStart => exact ⟨_, _, rfl, rfl, HD0⟩
   case round =>
    obtain ⟨k, r, rfl, rfl, HD⟩ := hrel
    have hlow := HD.out.low
    rw [HQQ0.out] at hlow
    have hk0 : 0 ≤ k := by omega
    obtain ⟨p0, p1, p2, p3⟩ := HD.out.small hk0 hy00 hy01 hx20 hx21
    have hr0 := HD.out.pos
    have hr1 := HD.out.less
    have hkh := HD.out.high
    obtain ⟨p, hp⟩ : ∃ p, k * y0 = p := ⟨_, rfl⟩
    have HPK := Lib.hid hp
    rw [hp] at p0 p1
    have t1 : IntKind.u64.wrap (k * y0) = p := by rw [hp, IntKind.wrap_u64]; omega
    have t2 : IntKind.u64.wrap (4294967296 * r) = 4294967296 * r := by rw [IntKind.wrap_u64]; omega
    have t3 : IntKind.u64.wrap (4294967296 * r + x2) = 4294967296 * r + x2 := by rw [IntKind.wrap_u64]; omega
    have t4 : IntKind.u64.wrap (r + y1) = r + y1 := by rw [IntKind.wrap_u64]; omega
    clear hp
    by_cases hc : 4294967296 ≤ k ∨ 4294967296 * r + x2 < p
    ·have hpr := HD.out.pred hyp huU2 hx21 (by rw [HPK.out]; exact hc)
     rw [HQQ0.out] at hpr
     have t5 : IntKind.u64.wrap (k - 1) = k - 1 := by rw [IntKind.wrap_u64]; omega
     by_cases hr : r + y1 < 4294967296
     ·have HN := Lib.hid (HD.out.next hy10 hyp huU2 hx21 (by rw [HPK.out]; exact hc) hr)
      have g3 : decide (4294967296 ≤ r + y1) = false := decide_eq_false (by omega)
      by_cases h1 : 4294967296 ≤ k
      ·have g1 : decide (4294967296 ≤ k) = true := decide_eq_true h1
       clear hc
       go_wp2_with fail
       go_round
       case rel => exact ⟨_, _, rfl, rfl, HN⟩
       case measure => simp [intOf]; omega
      ·have g1 : decide (4294967296 ≤ k) = false := decide_eq_false h1
       have g2 : decide (4294967296 * r + x2 < p) = true := decide_eq_true (by omega)
       clear hc
       go_wp2_with fail
       go_round
       case rel => exact ⟨_, _, rfl, rfl, HN⟩
       case measure => simp [intOf]; omega
     ·have ho := HD.out.out hyp huU2 hy00 hy01 hx20 hx21 (by rw [HPK.out]; exact hc) (by omega)
      rw [HQQ0.out] at ho
      have HO := Lib.hid ho
      have g3 : decide (4294967296 ≤ r + y1) = true := decide_eq_true (by omega)
      clear ho hpr
      by_cases h1 : 4294967296 ≤ k
      ·have g1 : decide (4294967296 ≤ k) = true := decide_eq_true h1
       clear hc
       go_wp2_with fail
       go_meet
       exact ⟨by rw [HO.out], rfl⟩
      ·have g1 : decide (4294967296 ≤ k) = false := decide_eq_false h1
       have g2 : decide (4294967296 * r + x2 < p) = true := decide_eq_true (by omega)
       clear hc
       go_wp2_with fail
       go_meet
       exact ⟨by rw [HO.out], rfl⟩
    ·have ho := HD.out.done hyp (by rw [HPK.out]; omega)
     rw [HQQ0.out] at ho
     have HO := Lib.hid ho
     have g1 : decide (4294967296 ≤ k) = false := decide_eq_false (by omega)
     have g2 : decide (4294967296 * r + x2 < p) = false := decide_eq_false (by omega)
     clear ho hc
     go_wp2_with fail
     go_meet
     exact ⟨by rw [HO.out], rfl⟩
  case rest =>
   obtain ⟨rfl, rfl⟩ := hcut
   go_wp2_with fail
   go_ret2
   exact ⟨by rw [← HF1.out, ← HF2.out]; rfl, rfl⟩
end Go.Proofs.Ytbgkgahmicepdaa
namespace Go.Proofs.Ytbgkgahmicepdaa
open Go.RowKit Go.Shelf
theorem div64_all (hi lo v : Int) (hi0 : 0 ≤ hi) (hv : hi < v) (v1 : v < 18446744073709551616) (l0 : 0 ≤ lo) (l1 : lo < 18446744073709551616) (w : World) :
  Calls Try.prog 74 #[.int .u64 hi, .int .u64 lo, .int .u64 v] w fun e w' => e = .returned (.tuple #[.int .u64 ((hi * 18446744073709551616 + lo) / v), .int .u64 ((hi * 18446744073709551616 + lo) % v)]) ∧ ∃ m, w' = w.drewN m := by
 by_cases z : hi = 0
 ·subst z
  have := div64_small lo v l0 l1 hv v1 w
  rw [show (0 : Int) * 18446744073709551616 + lo = lo by omega]
  exact this
 ·exact (div64_any hi lo v (by omega) hv v1 l0 l1 w).mono fun e w' h => ⟨h.1, 0, h.2.symm⟩
theorem over_words {a ah al b : Int} (e : ah * 18446744073709551616 + al = a) (hb : 0 < b) (l0 : 0 ≤ al) (l1 : al < 18446744073709551616) :
  ah / b = hiW (a / b) ∧ (ah % b * 18446744073709551616 + al) / b = loW (a / b) ∧ (ah % b * 18446744073709551616 + al) % b = a % b := by
 have r0 := Int.emod_nonneg ah (show b ≠ 0 by omega)
 have r1 := Int.emod_lt_of_pos ah hb
 have e2 := Int.mul_ediv_add_emod ah b
 have e3 : a = (ah % b * 18446744073709551616 + al) + b * (ah / b * 18446744073709551616) := by
  rw [← e, ← Int.mul_assoc]
  generalize b * (ah / b) = X at *
  omega
 have q0 : 0 ≤ (ah % b * 18446744073709551616 + al) / b := Int.ediv_nonneg (by omega) (by omega)
 have q1 : (ah % b * 18446744073709551616 + al) / b < 18446744073709551616 := by
  refine Int.ediv_lt_of_lt_mul hb ?_
  have := Int.mul_le_mul_of_nonneg_left (show ah % b + 1 ≤ b by omega) (show (0 : Int) ≤ 18446744073709551616 by decide)
  omega
 have e4 : a / b = (ah % b * 18446744073709551616 + al) / b + ah / b * 18446744073709551616 := by
  conv => lhs; rw [e3]
  exact Int.add_mul_ediv_left _ _ (by omega)
 have e5 : a % b = (ah % b * 18446744073709551616 + al) % b := by
  conv => lhs; rw [e3]
  exact Int.add_mul_emod_self_left _ _ _
 refine ⟨?_, ?_, e5.symm⟩
 ·unfold hiW; rw [e4]; omega
 ·unfold loW; rw [e4]; omega
set_option maxRecDepth 100000 in
set_option maxHeartbeats 4000000 in
theorem over_wide (x y : Int) (hx : 0 ≤ x) (hx' : x < 340282366920938463463374607431768211456) (hy : 0 < y) (hy' : y < 18446744073709551616) (w : World) :
  Calls Try.prog 55 #[.agg #[.int .u64 (hiW x), .int .u64 (loW x)], .int .u64 y] w fun e w' => e = .returned (.tuple #[.agg #[.int .u64 (hiW (x / y)), .int .u64 (loW (x / y))], .int .u64 (x % y)]) ∧ Below w.heap.size w w' := by
 have h1 := hi_bd hx hx'
 have h2 := lo_bd x
 obtain ⟨p1, p2, p3⟩ := over_words (hi_lo x) hy h2.1 h2.2
 generalize hiW x = h at *
 generalize loW x = l at *
 generalize hiW (x / y) = qh at *
 generalize loW (x / y) = ql at *
 generalize x % y = rr at *
 have y0 : ¬ y = 0 := by omega
 have y0' : (y == 0) = false := by simpa using y0
 have m0 := Int.emod_nonneg h y0
 have m1 := Int.emod_lt_of_pos h hy
 have m2 := Int.ediv_nonneg h1.1 (Int.le_of_lt hy)
 have m3 := Int.ediv_le_self y h1.1
 have u1 : IntKind.u64.wrap (h.tmod y) = h % y := by rw [Int.tmod_eq_emod_of_nonneg h1.1, IntKind.wrap_u64]; omega
 have u2 : IntKind.u64.wrap (h.tdiv y) = qh := by rw [Int.tdiv_eq_ediv_of_nonneg h1.1, IntKind.wrap_u64, ← p1]; omega
 have HD := Lib.hid (div64_all (h % y) l y m0 m1 hy' h2.1 h2.2)
 rw [p2, p3] at HD
 have u3 : h.tmod y = h % y := Int.tmod_eq_emod_of_nonneg h1.1
 have u4 : h.tdiv y = qh := by rw [Int.tdiv_eq_ediv_of_nonneg h1.1]; exact p1
 have u5 : IntKind.u64.wrap qh = qh := by rw [IntKind.wrap_u64]; omega
 obtain ⟨r, hr⟩ : ∃ r, h % y = r := ⟨_, rfl⟩
 rw [hr] at HD u1 u3 m0 m1
 clear p2 p3 m2 m3
 go_enter Try.func55, Try.ntmps55
 go_wp2_with fail
 go_quiet ((go_at_call 74; with_reducible refine Calls.quiet_of (v := .tuple #[.int .u64 ql, .int .u64 rr]) (HD.out _)))
 go_wp2_with fail
 refine bodyPost_ret (v := .tuple #[.agg #[.int .u64 qh, .int .u64 ql], .int .u64 rr]) (by simp [results, Try.results55, go_sem]) rfl ⟨rfl, ?_⟩
 exact ((below_drewN ((below_new _ _).alloc (by simp) _) _).setCell (p := ⟨w.heap.size + 1, 0, none⟩) (by simp) _).setCell (p := ⟨w.heap.size + 1, 1, none⟩) (by simp) _
theorem product_wide (x y : Int) (hx : 0 ≤ x) (hx' : x < 18446744073709551616) (hy : 0 ≤ y) (hy' : y < 18446744073709551616) (w : World) :
  Calls Try.prog 26 #[.int .u64 x, .int .u64 y] w fun e w' => e = .returned (.agg #[.int .u64 (hiW (x * y)), .int .u64 (loW (x * y))]) ∧ Below w.heap.size w w' := product_any x y hx hx' hy hy' w
theorem eql_V (h l : Int) (w : World) : (binOp .eql 60 (.agg #[.int .u64 h, .int .u64 l]) (.agg #[.int .u64 0, .int .u64 0])).run Try.prog w = .ok (.bool ((h == 0) && (l == 0))) w := by
 simp [go_sem]
 by_cases a : h = 0
 ·by_cases b : l = 0
  ·simp [a, b]
  ·simp [a, b]
 ·simp [a]
theorem eqV_yes {x : Int} (h : x = 0) (w : World) : (binOp .eql 60 (.agg #[.int .u64 (hiW x), .int .u64 (loW x)]) (.agg #[.int .u64 0, .int .u64 0])).run Try.prog w = .ok (.bool true) w := by subst h; exact eql_V _ _ _
theorem eqV_no {x : Int} (h : ¬ x = 0) (w : World) : (binOp .eql 60 (.agg #[.int .u64 (hiW x), .int .u64 (loW x)]) (.agg #[.int .u64 0, .int .u64 0])).run Try.prog w = .ok (.bool false) w := by
 rw [eql_V]
 have := hi_lo x
 have e : ((hiW x == 0) && (loW x == 0)) = false := by
  rw [Bool.and_eq_false_iff, beq_eq_false_iff_ne, beq_eq_false_iff_ne]
  omega
 rw [e]
end Go.Proofs.Ytbgkgahmicepdaa
