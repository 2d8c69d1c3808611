/-
  THE WALK of the reference's long division (02) on magnitudes of two words, by a divisor below 2^127.
-/
import Derived.BigRegion
import Derived.Test.YtbgkgahmicepdaaGreatP26
namespace Go.Proofs.YtbgkgahmicepdaaGreat
set_option maxRecDepth 100000
set_option maxHeartbeats 80000000
set_option linter.unusedSimpArgs false
section
open Go.RowKit Go.Shelf
structure Dv (A b q r a : Int) (i : Nat) : Prop where
 eq : (q * b + r) * 340282366920938463463374607431768211456 + a = A * 2 ^ i
 q0 : 0 ≤ q
 r0 : 0 ≤ r
 rb : r < b
 a0 : 0 ≤ a
 a1 : a < 340282366920938463463374607431768211456
theorem Dv.start {A b : Int} (h0 : 0 ≤ A) (h1 : A < 340282366920938463463374607431768211456) (hb : 0 < b) : Dv A b 0 0 A 0 := ⟨by simp, by omega, by omega, hb, h0, h1⟩
theorem Dv.qlt {A b q r a : Int} {i : Nat} (h : Dv A b q r a i) (h1 : A < 340282366920938463463374607431768211456) (hb : 0 < b) : q < 2 ^ i := by
 have hp : (0 : Int) < 2 ^ i := Int.pow_pos (by decide);have l1 := Int.mul_lt_mul_of_pos_right h1 hp;have l2 := Int.mul_le_mul_of_nonneg_left (show 1 ≤ b by omega) h.q0;have e := h.eq;have := h.r0;have := h.a0;generalize q * b = X at *;generalize A * 2 ^ i = Y at *;generalize (2 : Int) ^ i = P at *;omega
theorem pow_le_of {i k : Nat} (h : i ≤ k) : (2 : Int) ^ i ≤ 2 ^ k := by
 have := Nat.pow_le_pow_right (n := 2) (by decide) h;have e1 : ((2 ^ i : Nat) : Int) = (2 : Int) ^ i := by simp
 have e2 : ((2 ^ k : Nat) : Int) = (2 : Int) ^ k := by simp
 omega
theorem Dv.shift {A b q r a : Int} {i : Nat} (h : Dv A b q r a i) : (2 * q * b + (2 * r + a / 170141183460469231731687303715884105728)) * 340282366920938463463374607431768211456 + a * 2 % 340282366920938463463374607431768211456 = A * 2 ^ (i + 1) := by
 rw [Int.pow_succ, ← Int.mul_assoc, ← h.eq, Int.mul_assoc 2];have := h.a0;have := h.a1;generalize q * b = X at *;omega
theorem Dv.low {A b q r a : Int} {i : Nat} (h : Dv A b q r a i) (hb : 2 * r + a / 170141183460469231731687303715884105728 < b) : Dv A b (2 * q) (2 * r + a / 170141183460469231731687303715884105728) (a * 2 % 340282366920938463463374607431768211456) (i + 1) :=
 ⟨h.shift, by have := h.q0; omega, by have := h.r0; have := h.a0; omega, hb, by omega, by omega⟩
theorem Dv.high {A b q r a : Int} {i : Nat} (h : Dv A b q r a i) (hb : ¬ 2 * r + a / 170141183460469231731687303715884105728 < b) : Dv A b (2 * q + 1) (2 * r + a / 170141183460469231731687303715884105728 - b) (a * 2 % 340282366920938463463374607431768211456) (i + 1) :=
 ⟨by rw [← h.shift, Int.add_mul (2 * q) 1 b, Int.one_mul]; congr 2; omega, by have := h.q0; omega, by omega, by have := h.rb; have := h.a1; omega, by omega, by omega⟩
theorem Dv.done {A b q r a : Int} (h : Dv A b q r a 128) (hb : 0 < b) : q = A / b ∧ r = A % b := by
 have e := h.eq
 have e' : q * b + r = A := by
  have := h.a0;have := h.a1;generalize q * b = X at *;omega
 have h2 := Int.mul_ediv_add_emod A b;have r0 := Int.emod_nonneg A (show b ≠ 0 by omega);have r1 := Int.emod_lt_of_pos A hb;have := h.r0;have := h.rb
 have hq : q = A / b := by
  rw [← e', Int.add_ediv_of_dvd_left (Int.dvd_mul_left _ _), Int.mul_ediv_cancel _ (by omega), Int.ediv_eq_zero_of_lt h.r0 h.rb, Int.add_zero]
 refine ⟨hq, ?_⟩;rw [← hq, Int.mul_comm] at h2;omega
theorem dv_words_r {r rh rl ah al a : Int} (e1 : rh * 18446744073709551616 + rl = r) (e2 : ah * 18446744073709551616 + al = a) (_ : 0 ≤ rl ∧ rl < 18446744073709551616) (_ : 0 ≤ al ∧ al < 18446744073709551616) (h3 : 0 ≤ rh ∧ rh < 9223372036854775808) (h4 : 0 ≤ ah ∧ ah < 18446744073709551616) :
  (rh * 2 + rl / 9223372036854775808) % 18446744073709551616 = hiW (2 * r + a / 170141183460469231731687303715884105728) ∧ (rl * 2 % 18446744073709551616 + ah / 9223372036854775808) % 18446744073709551616 = loW (2 * r + a / 170141183460469231731687303715884105728) := by
 have : a / 170141183460469231731687303715884105728 = ah / 9223372036854775808 := by omega
 rw [this];unfold hiW loW;omega
theorem dv_words_a {a ah al : Int} (e : ah * 18446744073709551616 + al = a) (_ : 0 ≤ al ∧ al < 18446744073709551616) (_ : 0 ≤ ah ∧ ah < 18446744073709551616) :
  (ah * 2 % 18446744073709551616 + al / 9223372036854775808) % 18446744073709551616 = hiW (a * 2 % 340282366920938463463374607431768211456) ∧ al * 2 % 18446744073709551616 = loW (a * 2 % 340282366920938463463374607431768211456) := by
 unfold hiW loW;omega
theorem dv_words_q {q qh ql : Int} (e : qh * 18446744073709551616 + ql = q) (h1 : 0 ≤ ql ∧ ql < 18446744073709551616) (h2 : 0 ≤ qh ∧ qh < 9223372036854775808) :
  (qh * 2 + ql / 9223372036854775808) % 18446744073709551616 = hiW (2 * q) ∧ ql * 2 % 18446744073709551616 = loW (2 * q) ∧ (loW (2 * q) + 1) % 18446744073709551616 = loW (2 * q + 1) ∧ hiW (2 * q + 1) = hiW (2 * q) := by
 unfold hiW loW;omega

structure DD (w : World) (n : Nat) (a b q r : Int) : Prop where
 a : FC w n (hiW a) (loW a)
 b : FC w (n + 1) (hiW b) (loW b)
 u : FC w (n + 1 + 1) 0 0
 v : FC w (n + 1 + 1 + 1) 0 0
 q : FC w (n + 1 + 1 + 1 + 1) (hiW q) (loW q)
 r : FC w (n + 1 + 1 + 1 + 1 + 1) (hiW r) (loW r)
theorem DD.carry {W w : World} {n : Nat} {a b q r : Int} (d : DD W n a b q r) (h : Below W.heap.size W w) : DD w n a b q r := ⟨d.a.carry h, d.b.carry h, d.u.carry h, d.v.carry h, d.q.carry h, d.r.carry h⟩
theorem DD.setA {w : World} {n : Nat} {a b q r : Int} (d : DD w n a b q r) (z : Int) : DD ((w.setCell ⟨n, 0, none⟩ (.int .u64 (hiW z))).setCell ⟨n, 1, none⟩ (.int .u64 (loW z))) n z b q r :=
 ⟨d.a.set _ _, d.b.other (by omega) _ _, d.u.other (by omega) _ _, d.v.other (by omega) _ _, d.q.other (by omega) _ _, d.r.other (by omega) _ _⟩
theorem DD.setQ {w : World} {n : Nat} {a b q r : Int} (d : DD w n a b q r) (z : Int) : DD ((w.setCell ⟨n + 1 + 1 + 1 + 1, 0, none⟩ (.int .u64 (hiW z))).setCell ⟨n + 1 + 1 + 1 + 1, 1, none⟩ (.int .u64 (loW z))) n a b z r :=
 ⟨d.a.other (by omega) _ _, d.b.other (by omega) _ _, d.u.other (by omega) _ _, d.v.other (by omega) _ _, d.q.set _ _, d.r.other (by omega) _ _⟩
theorem DD.setQ1 {w : World} {n : Nat} {a b q r : Int} (d : DD w n a b q r) (z : Int) (h : hiW z = hiW q) : DD (w.setCell ⟨n + 1 + 1 + 1 + 1, 1, none⟩ (.int .u64 (loW z))) n a b z r :=
 ⟨d.a.other1 (by omega) _, d.b.other1 (by omega) _, d.u.other1 (by omega) _, d.v.other1 (by omega) _, by rw [h]; exact d.q.set1 _, d.r.other1 (by omega) _⟩
theorem DD.setR {w : World} {n : Nat} {a b q r : Int} (d : DD w n a b q r) (z : Int) : DD ((w.setCell ⟨n + 1 + 1 + 1 + 1 + 1, 0, none⟩ (.int .u64 (hiW z))).setCell ⟨n + 1 + 1 + 1 + 1 + 1, 1, none⟩ (.int .u64 (loW z))) n a b q z :=
 ⟨d.a.other (by omega) _ _, d.b.other (by omega) _ _, d.u.other (by omega) _ _, d.v.other (by omega) _ _, d.q.other (by omega) _ _, d.r.set _ _⟩

theorem rdiv_wide (A b : Int) (A0 : 0 ≤ A) (A1 : A < 340282366920938463463374607431768211456) (b0 : 0 < b) (b1 : b < 170141183460469231731687303715884105728) (w : World) :
  Calls Tryz.prog 113 #[.agg #[.int .u64 (hiW A), .int .u64 (loW A)], .agg #[.int .u64 (hiW b), .int .u64 (loW b)]] w fun e w' => e = .returned (.tuple #[.agg #[.int .u64 (hiW (A / b)), .int .u64 (loW (A / b))], .agg #[.int .u64 (hiW (A % b)), .int .u64 (loW (A % b))]]) ∧ Below w.heap.size w w' := by
 have hAl := lo_bd A;have hbl := lo_bd b;have hAh := hi_bd A0 A1;have hbh := hi_bd (show 0 ≤ b by omega) (by omega);have eA := hi_lo A;have eb := hi_lo b
 by_cases small : hiW A = 0 ∧ hiW b = 0
 ·obtain ⟨zA, zb⟩ := small
  have lA : loW A = A := by omega
  have lb : loW b = b := by omega
  have hb : (b == 0) = false := by simp; omega
  have hq := Int.ediv_nonneg A0 (Int.le_of_lt b0);have hr := Int.emod_nonneg A (show b ≠ 0 by omega);have hql := Int.ediv_le_self b A0;have hrl := Int.emod_lt_of_pos A b0;rw [zA, zb, lA, lb, hiW_zero hq (by omega), loW_small hq (by omega), hiW_zero hr (by omega), loW_small hr (by omega)];have u1 : IntKind.u64.wrap (A.tdiv b) = A / b := by rw [Int.tdiv_eq_ediv_of_nonneg A0, IntKind.wrap_u64]; omega
  have u2 : IntKind.u64.wrap (A.tmod b) = A % b := by rw [Int.tmod_eq_emod_of_nonneg A0, IntKind.wrap_u64]; omega
  clear zA zb lA lb eA eb hAl hbl hAh hbh
  go_enter Tryz.func113, Tryz.ntmps113
  go_wp2_with fail
  go_region
  all_goals go_wp2_with fail
  all_goals refine bodyPost_ret (v := .tuple #[.agg #[.int .u64 0, .int .u64 (A / b)], .agg #[.int .u64 0, .int .u64 (A % b)]]) (by simp [results, Tryz.results113, go_sem]) rfl ⟨rfl, ?_⟩
  all_goals exact (below_a _ (below_a _ (below_a _ (below_new _ _)))).drew
 have hz : (hiW A == 0) = false ∨ (hiW A == 0) = true ∧ (hiW b == 0) = false := by
  by_cases z : hiW A = 0
  ·exact .inr ⟨beq_iff_eq.2 z, beq_eq_false_iff_ne.2 fun h => small ⟨z, h⟩⟩
  ·exact .inl (beq_eq_false_iff_ne.2 z)
 obtain ⟨Q, hQ⟩ := nm (A / b);obtain ⟨R, hR⟩ := nm (A % b);have HQ := lh hQ;have HR := lh hR;rw [hQ, hR];clear hQ hR small eA eb hAl hAh;rcases hz with z1 | ⟨z1, z2⟩
 all_goals
  go_enter Tryz.func113, Tryz.ntmps113
  go_wp2_with fail
  clear z1
  go_loopw [8] (fun t wr => ∃ (i : Nat) (q r a : Int), t = .int .i64 i ∧ i ≤ 128 ∧ Hid (Dv A b q r a i) ∧ DD wr w.heap.size a b q r ∧ Below w.heap.size w wr) (fun t _ => 128 - (intOf t).toNat)
  case atStart =>
   refine ⟨0, 0, 0, A, rfl, by omega, lh (Dv.start A0 A1 b0), ?_, ?_⟩
   ·refine ⟨?_, ?_, ?_, ?_, ?_, ?_⟩
    all_goals refine ⟨?_, ?_, ?_, ?_, ?_⟩
    all_goals first | (simp [go_sem, World.cell?_alloc_past]; done) | (simp; done) | (simp <;> omega) | (simp [go_sem, World.cell?_alloc_past, hiW, loW]; done)
   ·exact below_a _ (below_a _ (below_a _ (below_a _ (below_a _ (below_new _ _)))))
  case round =>
   obtain ⟨i, q, r, a, rfl, hi, HV, hD, hB⟩ := hrel;have HD := lh hD;obtain ⟨⟨a0, a1, a2, a3, a4⟩, ⟨b0', b1', b2, b3, b4⟩, ⟨u0, u1, u2, u3, u4⟩, ⟨v0, v1, v2, v3, v4⟩, ⟨q0, q1, q2, q3, q4⟩, ⟨r0, r1, r2, r3, r4⟩⟩ := hD
   by_cases hl : i < 128
   ·have g1 : decide ((i : Int) < 128) = true := dT (by omega)
    have s1 : IntKind.i64.wrap ((i : Int) + 1) = (i : Int) + 1 := IntWalk.i64_in _ (by omega);have hqi := HV.out.qlt A1 b0;have hpi := pow_le_of (show i ≤ 127 by omega);have hq0 := HV.out.q0;have hr0 := HV.out.r0;have hrb := HV.out.rb;have ha0 := HV.out.a0;have ha1 := HV.out.a1;have e127 : (2 : Int) ^ 127 = 170141183460469231731687303715884105728 := by decide
    rw [e127] at hpi;have hrw := lo_bd r;have haw := lo_bd a;have hqw := lo_bd q;have hrh : 0 ≤ hiW r ∧ hiW r < 9223372036854775808 := by unfold hiW; omega
    have hqh : 0 ≤ hiW q ∧ hiW q < 9223372036854775808 := by unfold hiW; omega
    have hah := hi_bd ha0 ha1;obtain ⟨p1, p2⟩ := dv_words_r (hi_lo r) (hi_lo a) hrw haw hrh hah;obtain ⟨p3, p4⟩ := dv_words_a (hi_lo a) haw hah;obtain ⟨p5, p6, p7, p8⟩ := dv_words_q (hi_lo q) hqw hqh;have x1 : hiW r / 9223372036854775808 = 0 := by omega
    have x2 : IntKind.u64.wrap (hiW r * 2) = hiW r * 2 := by rw [IntKind.wrap_u64]; omega
    have x3 : IntKind.u64.wrap (loW r * 2) = loW r * 2 % 18446744073709551616 := by rw [IntKind.wrap_u64]
    have x4 : IntKind.u64.wrap (hiW a * 2) = hiW a * 2 % 18446744073709551616 := by rw [IntKind.wrap_u64]
    have x6 : IntKind.u64.wrap (hiW q * 2) = hiW q * 2 := by rw [IntKind.wrap_u64]; omega
    have HLO := HV.out.low;have HHI := HV.out.high;obtain ⟨r', hr'⟩ := nm (2 * r + a / 170141183460469231731687303715884105728);obtain ⟨a', ha'⟩ := nm (a * 2 % 340282366920938463463374607431768211456);obtain ⟨q', hq'⟩ := nm (2 * q);have hr'0 : 0 ≤ r' := by omega
    have hr'1 : r' < 340282366920938463463374607431768211456 := by omega
    rw [hr', ha', hq'] at HLO HHI;rw [hr'] at p1 p2;rw [ha'] at p3 p4;rw [hq'] at p5 p6 p7 p8;have y1 : IntKind.u64.wrap (hiW r * 2 + loW r / 9223372036854775808) = hiW r' := by rw [IntKind.wrap_u64]; exact p1
    have y2 : IntKind.u64.wrap (loW r * 2 % 18446744073709551616 + hiW a / 9223372036854775808) = loW r' := by rw [IntKind.wrap_u64]; exact p2
    have y3 : IntKind.u64.wrap (hiW a * 2 % 18446744073709551616 + loW a / 9223372036854775808) = hiW a' := by rw [IntKind.wrap_u64]; exact p3
    have y4 : IntKind.u64.wrap (loW a * 2) = loW a' := by rw [IntKind.wrap_u64]; exact p4
    have y5 : IntKind.u64.wrap (hiW q * 2 + loW q / 9223372036854775808) = hiW q' := by rw [IntKind.wrap_u64]; exact p5
    have y6 : IntKind.u64.wrap (loW q * 2) = loW q' := by rw [IntKind.wrap_u64]; exact p6
    have y7 : IntKind.u64.wrap (loW q' + 1) = loW (q' + 1) := by rw [IntKind.wrap_u64]; exact p7
    have D1 := ((HD.out.setR r').setA a').setQ q'
    have B1 : Below w.heap.size w ((((((wr.setCell ⟨w.heap.size + 1 + 1 + 1 + 1 + 1, 0, none⟩ (.int .u64 (hiW r'))).setCell ⟨w.heap.size + 1 + 1 + 1 + 1 + 1, 1, none⟩ (.int .u64 (loW r'))).setCell ⟨w.heap.size, 0, none⟩ (.int .u64 (hiW a'))).setCell ⟨w.heap.size, 1, none⟩ (.int .u64 (loW a'))).setCell ⟨w.heap.size + 1 + 1 + 1 + 1, 0, none⟩ (.int .u64 (hiW q'))).setCell ⟨w.heap.size + 1 + 1 + 1 + 1, 1, none⟩ (.int .u64 (loW q'))) := by
     repeat' refine below_s _ _ ?_ (by simp <;> omega)
     exact hB
    have HD1 := lh D1;have HB1 := lh B1;have HP8 := lh p8;clear p1 p2 p3 p4 p5 p6 p7 p8 hr' ha' hq' D1 B1 hB hqi hpi e127
    by_cases c : r' < b
    ·have g2 : decide (r' < b) = true := decide_eq_true c
     have HN := lh (HLO c);clear HLO HHI c
     go_wp2_with (go_at_call 77; (with_reducible refine (rless_wide r' b _).mono ?_); rw [g2]; rintro e w1 ⟨rfl, hb1⟩)
     go_roundw
     case rel => exact ⟨i + 1, q', r', a', by go_num, by omega, HN, HD1.out.carry hb1, HB1.out.trans (hb1.mono HB1.out.size)⟩
     case measure => simp [intOf]; omega
    ·have g2 : decide (r' < b) = false := decide_eq_false c
     have HN := lh (HHI c);have hc : b ≤ r' := by omega
     clear HLO HHI c
     go_wp2_with (first
      | (go_at_call 77; (with_reducible refine (rless_wide r' b _).mono ?_); rw [g2]; rintro e w1 ⟨rfl, hb1⟩; have D2 := HD1.out.carry hb1; have B2 := HB1.out.trans (hb1.mono HB1.out.size); have HD2 := lh D2; have HB2 := lh B2; clear D2 B2; obtain ⟨⟨a0, a1, a2, a3, a4⟩, ⟨b0', b1', b2, b3, b4⟩, ⟨u0, u1, u2, u3, u4⟩, ⟨v0, v1, v2, v3, v4⟩, ⟨q0, q1, q2, q3, q4⟩, ⟨r0, r1, r2, r3, r4⟩⟩ := HD2.out)
      | (go_at_call 78; (with_reducible refine (rminus_wide r' b hr'1 (by omega) hc _).mono ?_); rintro e w2 ⟨rfl, hb2⟩; have D3 := HD2.out.carry hb2; have B3 := HB2.out.trans (hb2.mono HB2.out.size); have HD3 := lh D3; have HB3 := lh B3; clear D3 B3; obtain ⟨⟨a0, a1, a2, a3, a4⟩, ⟨b0', b1', b2, b3, b4⟩, ⟨u0, u1, u2, u3, u4⟩, ⟨v0, v1, v2, v3, v4⟩, ⟨q0, q1, q2, q3, q4⟩, ⟨r0, r1, r2, r3, r4⟩⟩ := HD3.out))
     go_roundw
     case rel => exact ⟨i + 1, q' + 1, r' - b, a', by go_num, by omega, HN, (HD3.out.setR (r' - b)).setQ1 (q' + 1) HP8.out, by
      repeat' refine below_s _ _ ?_ (by simp <;> omega)
      exact HB3.out⟩
     case measure => simp [intOf]; omega
   ·obtain rfl : i = 128 := by omega
    obtain ⟨e1, e2⟩ := HV.out.done b0;rw [HQ.out] at e1;rw [HR.out] at e2;subst e1;subst e2
    go_wp2_with fail
    go_region
    all_goals go_wp2_with fail
    all_goals refine bodyPost_ret (v := .tuple #[.agg #[.int .u64 (hiW q), .int .u64 (loW q)], .agg #[.int .u64 (hiW r), .int .u64 (loW r)]]) (by simp [results, Tryz.results113, go_sem, *]) rfl ⟨rfl, ?_⟩
    all_goals
     refine Below.drew ?_
     repeat' refine below_s _ _ ?_ (by simp <;> omega)
     exact hB
def C2w (w : World) (B : Nat) (v0 v1 : Value) : Prop := w.cell? ⟨B, 0, none⟩ = some v0 ∧ w.cell? ⟨B, 1, none⟩ = some v1
theorem C2w.carry {W w : World} {B : Nat} {v0 v1 : Value} (c : C2w W B v0 v1) (h : Below W.heap.size W w) : C2w w B v0 v1 :=
 ⟨(h.cell (p := ⟨B, 0, none⟩) (wl c.1)).trans c.1, (h.cell (p := ⟨B, 1, none⟩) (wl c.2)).trans c.2⟩
theorem C2w.new (W : World) (v0 v1 : Value) (t : TypeId) : C2w (W.alloc (.cells #[v0, v1] t)) W.heap.size v0 v1 := ⟨by simp, by simp⟩

def NewW (w : World) (b : Nat) : Prop := w.cell? ⟨b, 0, none⟩ = some (.int .i64 0) ∧ w.cell? ⟨b, 1, none⟩ = some (.int .i64 0) ∧ w.frozen? ⟨b, 0, none⟩ = false ∧ w.frozen? ⟨b, 1, none⟩ = false ∧ b < w.heap.size
theorem NewW.new (W : World) (t : TypeId) : NewW (W.alloc (.cells #[.int .i64 0, .int .i64 0] t)) W.heap.size := ⟨by simp, by simp, by simp, by simp, by simp⟩
theorem NewW.carry {W w : World} {b : Nat} (f : NewW W b) (h : Below W.heap.size W w) : NewW w b :=
 ⟨(h.cell (p := ⟨b, 0, none⟩) f.2.2.2.2).trans f.1, (h.cell (p := ⟨b, 1, none⟩) f.2.2.2.2).trans f.2.1, (h.frozen (p := ⟨b, 0, none⟩) f.2.2.2.2).trans f.2.2.1, (h.frozen (p := ⟨b, 1, none⟩) f.2.2.2.2).trans f.2.2.2.1, Nat.lt_of_lt_of_le f.2.2.2.2 h.size⟩

theorem rmade_wide (n d : Int) (neg : Bool) (n0 : 0 ≤ n) (n1 : n < 170141183460469231731687303715884105728) (d0 : 0 < d) (d1 : d < 170141183460469231731687303715884105728) (w : World) :
  Calls Tryz.prog 83 #[.agg #[.int .u64 (hiW n), .int .u64 (loW n)], .bool neg, .agg #[.int .u64 (hiW d), .int .u64 (loW d)]] w fun e w' => e = .returned (.tuple #[.agg #[.int .i64 (fitP (if neg then -lowN n d else lowN n d) (lowD n d)).1, .int .i64 (fitP (if neg then -lowN n d else lowN n d) (lowD n d)).2.1], .int .i64 (fitP (if neg then -lowN n d else lowN n d) (lowD n d)).2.2]) ∧ Below w.heap.size w w' := by
 have hd := fun w => eqU_no (show ¬ d = 0 by omega) w;obtain ⟨g, hg⟩ := nm ((Int.gcd n d : Int) : Int);have gp : 0 < g := by rw [← hg]; exact gcd_posR d0
 have gd : g ≤ d := by rw [← hg]; exact Int.le_of_dvd d0 (Int.gcd_dvd_right n d)
 have HG : Hid (∀ w : World, Calls Tryz.prog 33 #[.agg #[.int .u64 (hiW n), .int .u64 (loW n)], .agg #[.int .u64 (hiW d), .int .u64 (loW d)]] w fun e w' => e = .returned (.agg #[.int .u64 (hiW g), .int .u64 (loW g)]) ∧ Below w.heap.size w w') := lh fun w => by
  have := rgcd_wide n d n0 (by omega) d0 (by omega) w
  rwa [hg] at this
 have HN := lh (rdiv_wide n g n0 (by omega) gp (by omega));have HD := lh (rdiv_wide d g (Int.le_of_lt d0) (by omega) gp (by omega));have p0 : 0 ≤ lowN n d := by unfold lowN; rw [hg]; exact Int.ediv_nonneg n0 (Int.le_of_lt gp)
 have p1 : lowN n d ≤ n := by have := lowN_le n d; omega
 have q0 := lowD_pos (n := n) d0;have q1 := lowD_le (n := n) d0;have eN : n / g = lowN n d := by unfold lowN; rw [hg]
 have eD : d / g = lowD n d := by unfold lowD; rw [hg]
 rw [eN] at HN;rw [eD] at HD;generalize lowN n d = p at *;generalize lowD n d = q at *;clear hg eN eD gd;have e1 : n / g * g + n % g = n := Int.ediv_mul_add_emod n g;have hpw := lo_bd p;have hqw := lo_bd q;have hpe := hi_lo p;have hqe := hi_lo q;have hph := hi_bd p0 (by omega);have hqh := hi_bd (show 0 ≤ q by omega) (by omega);obtain ⟨P, hP⟩ := nm (fitP (if neg then -p else p) q);have HPP := lh hP;rw [hP];clear hP e1
 go_enter Tryz.func83, Tryz.ntmps83
 go_upto_region 3 with (fail)
 have hW0 : Below w.heap.size w (((w.alloc (.cells #[.int .u64 (hiW n), .int .u64 (loW n)] 69)).alloc (.cells #[.int .u64 (hiW d), .int .u64 (loW d)] 69)).alloc (.cells #[.int .i64 0, .int .i64 0] 29)) := below_a _ (below_a _ (below_new _ _));have c3 : C2w (((w.alloc (.cells #[.int .u64 (hiW n), .int .u64 (loW n)] 69)).alloc (.cells #[.int .u64 (hiW d), .int .u64 (loW d)] 69)).alloc (.cells #[.int .i64 0, .int .i64 0] 29)) w.heap.size (.int .u64 (hiW n)) (.int .u64 (loW n)) := ((C2w.new w _ _ _).carry (below_new _ _)).carry (below_new _ _);have c5 : C2w (((w.alloc (.cells #[.int .u64 (hiW n), .int .u64 (loW n)] 69)).alloc (.cells #[.int .u64 (hiW d), .int .u64 (loW d)] 69)).alloc (.cells #[.int .i64 0, .int .i64 0] 29)) (w.heap.size + 1) (.int .u64 (hiW d)) (.int .u64 (loW d)) := by have h := C2w.new (w.alloc (.cells #[.int .u64 (hiW n), .int .u64 (loW n)] 69)) (.int .u64 (hiW d)) (.int .u64 (loW d)) 69; rw [World.size_alloc] at h; exact h.carry (below_new _ _)
 have f6 : NewW (((w.alloc (.cells #[.int .u64 (hiW n), .int .u64 (loW n)] 69)).alloc (.cells #[.int .u64 (hiW d), .int .u64 (loW d)] 69)).alloc (.cells #[.int .i64 0, .int .i64 0] 29)) (w.heap.size + 1 + 1) := by have h := NewW.new ((w.alloc (.cells #[.int .u64 (hiW n), .int .u64 (loW n)] 69)).alloc (.cells #[.int .u64 (hiW d), .int .u64 (loW d)] 69)) 29; rw [World.size_alloc, World.size_alloc] at h; exact h
 obtain ⟨Bd, hBd⟩ := nm (w.heap.size + 1);obtain ⟨Br, hBr⟩ := nm (w.heap.size + 1 + 1);have hBr0 : w.heap.size ≤ Br := by omega
 simp only [hBr] at f6 ⊢;simp only [hBd] at c5 ⊢;clear hBd hBr;generalize (((w.alloc (.cells #[.int .u64 (hiW n), .int .u64 (loW n)] 69)).alloc (.cells #[.int .u64 (hiW d), .int .u64 (loW d)] 69)).alloc (.cells #[.int .i64 0, .int .i64 0] 29)) = W0 at *;obtain ⟨c30, c31⟩ := c3;obtain ⟨c50, c51⟩ := c5
 go_upto_region 4 with (go_at_call 33; (with_reducible refine (HG.out _).mono ?_); rintro e w1 ⟨rfl, hb1⟩)
 have b1 : Below W0.heap.size W0 (w1.alloc (.cells #[.int .u64 (hiW g), .int .u64 (loW g)] 69)) := below_a _ hb1;have c8 := C2w.new w1 (.int .u64 (hiW g)) (.int .u64 (loW g)) 69;have c3 := C2w.carry (v0 := .int .u64 (hiW n)) (v1 := .int .u64 (loW n)) ⟨c30, c31⟩ b1;have c5 := C2w.carry (v0 := .int .u64 (hiW d)) (v1 := .int .u64 (loW d)) ⟨c50, c51⟩ b1;have f6 := f6.carry b1;have hW1 := hW0.trans (b1.mono hW0.size);clear hb1 c30 c31 c50 c51 b1 hW0;generalize w1.alloc (.cells #[.int .u64 (hiW g), .int .u64 (loW g)] 69) = W1 at *;generalize w1.heap.size = B8 at *;obtain ⟨c30, c31⟩ := c3;obtain ⟨c80, c81⟩ := c8
 go_upto_region 5 with (go_at_call 113; (with_reducible refine (HN.out _).mono ?_); rintro e w2 ⟨rfl, hb2⟩)
 have b2 : Below W1.heap.size W1 ((w2.alloc (.cells #[.int .u64 (hiW p), .int .u64 (loW p)] 69)).alloc (.cells #[.int .u64 (hiW (n % g)), .int .u64 (loW (n % g))] 69)) := below_a _ (below_a _ hb2);have c9 : C2w ((w2.alloc (.cells #[.int .u64 (hiW p), .int .u64 (loW p)] 69)).alloc (.cells #[.int .u64 (hiW (n % g)), .int .u64 (loW (n % g))] 69)) w2.heap.size (.int .u64 (hiW p)) (.int .u64 (loW p)) := by unfold C2w; simp
 have c8 := C2w.carry (v0 := .int .u64 (hiW g)) (v1 := .int .u64 (loW g)) ⟨c80, c81⟩ b2;have c5 := c5.carry b2;have f6 := f6.carry b2;have hW2 := hW1.trans (b2.mono hW1.size);clear hb2 c30 c31 c80 c81 b2 hW1;obtain ⟨Bx, hBx⟩ := nm (w2.heap.size + 1);simp only [hBx];clear hBx;generalize ((w2.alloc (.cells #[.int .u64 (hiW p), .int .u64 (loW p)] 69)).alloc (.cells #[.int .u64 (hiW (n % g)), .int .u64 (loW (n % g))] 69)) = W2 at *;generalize w2.heap.size = B9 at *;obtain ⟨c50, c51⟩ := c5;obtain ⟨c80, c81⟩ := c8
 go_upto_region 6 with (go_at_call 113; (with_reducible refine (HD.out _).mono ?_); rintro e w3 ⟨rfl, hb3⟩)
 have b3 : Below W2.heap.size W2 ((w3.alloc (.cells #[.int .u64 (hiW q), .int .u64 (loW q)] 69)).alloc (.cells #[.int .u64 (hiW (d % g)), .int .u64 (loW (d % g))] 69)) := below_a _ (below_a _ hb3);have c11 : C2w ((w3.alloc (.cells #[.int .u64 (hiW q), .int .u64 (loW q)] 69)).alloc (.cells #[.int .u64 (hiW (d % g)), .int .u64 (loW (d % g))] 69)) w3.heap.size (.int .u64 (hiW q)) (.int .u64 (loW q)) := by unfold C2w; simp
 have c9 := c9.carry b3;have f6 := f6.carry b3;have hW3 := hW2.trans (b3.mono hW2.size);clear hb3 c50 c51 c80 c81 b3 hW2;obtain ⟨By, hBy⟩ := nm (w3.heap.size + 1);simp only [hBy];clear hBy;generalize ((w3.alloc (.cells #[.int .u64 (hiW q), .int .u64 (loW q)] 69)).alloc (.cells #[.int .u64 (hiW (d % g)), .int .u64 (loW (d % g))] 69)) = W3 at *;generalize w3.heap.size = B11 at *;obtain ⟨c90, c91⟩ := c9;obtain ⟨c110, c111⟩ := c11;obtain ⟨g0, g1, g2, g3, g4⟩ := f6
 by_cases c : 0 < hiW p
 ·have k : decide (0 < hiW p) = true := decide_eq_true c
  have HR : Hid (P = (0, 0, 5)) := lh (by rw [← HPP.out]; unfold fitP; rw [if_pos (by rcases Bool.eq_false_or_eq_true neg with h | h <;> simp only [h, if_true, if_false, Bool.false_eq_true] <;> omega)]);clear c hpw hqw hpe hqe hph hqh
  go_wp2_with fail
  have l0 := (two_cells (v0 := .int .i64 0) (v1 := .int .i64 0) g0 g1).1;have l1 := (two_cells (v0 := .int .i64 0) (v1 := .int .i64 0) g0 g1).2;rw [HR.out];refine bodyPost_ret (v := .tuple #[.agg #[.int .i64 0, .int .i64 0], .int .i64 5]) (by simp [results, Tryz.results83, go_sem, l0, l1]) rfl ⟨rfl, ?_⟩;exact below_s _ _ (below_s _ _ hW3 hBr0) hBr0
 have k0 : decide (0 < hiW p) = false := decide_eq_false c;have k0b : ¬ 0 < hiW p := c;clear c
 by_cases c : 1152921504606846976 < loW p
 ·have k : decide (1152921504606846976 < loW p) = true := decide_eq_true c
  have HR : Hid (P = (0, 0, 5)) := lh (by rw [← HPP.out]; unfold fitP; rw [if_pos (by rcases Bool.eq_false_or_eq_true neg with h | h <;> simp only [h, if_true, if_false, Bool.false_eq_true] <;> omega)]);clear c hpw hqw hpe hqe hph hqh
  go_wp2_with fail
  have l0 := (two_cells (v0 := .int .i64 0) (v1 := .int .i64 0) g0 g1).1;have l1 := (two_cells (v0 := .int .i64 0) (v1 := .int .i64 0) g0 g1).2;rw [HR.out];refine bodyPost_ret (v := .tuple #[.agg #[.int .i64 0, .int .i64 0], .int .i64 5]) (by simp [results, Tryz.results83, go_sem, l0, l1]) rfl ⟨rfl, ?_⟩;exact below_s _ _ (below_s _ _ hW3 hBr0) hBr0
 have k1 : decide (1152921504606846976 < loW p) = false := decide_eq_false c;have k1b : ¬ 1152921504606846976 < loW p := c;clear c
 by_cases c : 0 < hiW q
 ·have k : decide (0 < hiW q) = true := decide_eq_true c
  have HR : Hid (P = (0, 0, 5)) := lh (by rw [← HPP.out]; unfold fitP; rw [if_pos (by rcases Bool.eq_false_or_eq_true neg with h | h <;> simp only [h, if_true, if_false, Bool.false_eq_true] <;> omega)]);clear c hpw hqw hpe hqe hph hqh
  go_wp2_with fail
  have l0 := (two_cells (v0 := .int .i64 0) (v1 := .int .i64 0) g0 g1).1;have l1 := (two_cells (v0 := .int .i64 0) (v1 := .int .i64 0) g0 g1).2;rw [HR.out];refine bodyPost_ret (v := .tuple #[.agg #[.int .i64 0, .int .i64 0], .int .i64 5]) (by simp [results, Tryz.results83, go_sem, l0, l1]) rfl ⟨rfl, ?_⟩;exact below_s _ _ (below_s _ _ hW3 hBr0) hBr0
 have k2 : decide (0 < hiW q) = false := decide_eq_false c;have k2b : ¬ 0 < hiW q := c;clear c
 by_cases c : 1152921504606846976 < loW q
 ·have k : decide (1152921504606846976 < loW q) = true := decide_eq_true c
  have HR : Hid (P = (0, 0, 5)) := lh (by rw [← HPP.out]; unfold fitP; rw [if_pos (by rcases Bool.eq_false_or_eq_true neg with h | h <;> simp only [h, if_true, if_false, Bool.false_eq_true] <;> omega)]);clear c hpw hqw hpe hqe hph hqh
  go_wp2_with fail
  have l0 := (two_cells (v0 := .int .i64 0) (v1 := .int .i64 0) g0 g1).1;have l1 := (two_cells (v0 := .int .i64 0) (v1 := .int .i64 0) g0 g1).2;rw [HR.out];refine bodyPost_ret (v := .tuple #[.agg #[.int .i64 0, .int .i64 0], .int .i64 5]) (by simp [results, Tryz.results83, go_sem, l0, l1]) rfl ⟨rfl, ?_⟩;exact below_s _ _ (below_s _ _ hW3 hBr0) hBr0
 have k3 : decide (1152921504606846976 < loW q) = false := decide_eq_false c;have k3b : ¬ 1152921504606846976 < loW q := c;clear c;have zp : hiW p = 0 := by omega
 have zq : hiW q = 0 := by omega
 have lp : loW p = p := by omega
 have lq : loW q = q := by omega
 have z3 : IntKind.i64.wrap (loW p) = p := by rw [lp]; exact IntWalk.i64_in _ (by omega)
 have z4 : IntKind.i64.wrap (loW q) = q := by rw [lq]; exact IntWalk.i64_in _ (by omega)
 have z5 : IntKind.i64.wrap (0 - p) = -p := by rw [IntWalk.i64_in _ (by omega)]; omega
 have z6 : IntKind.i64.wrap (-p) = -p := IntWalk.i64_in _ (by omega);have z7 : IntKind.i64.wrap (-loW p) = -p := by rw [lp]; exact z6
 have z8 : IntKind.i64.wrap (0 - loW p) = -p := by rw [lp]; exact z5
 have HF : Hid (fitP (if neg then -p else p) q = (if neg then -p else p, q, 0)) := lh (by unfold fitP; rw [if_neg (by rcases Bool.eq_false_or_eq_true neg with h | h <;> simp only [h, if_true, if_false, Bool.false_eq_true] <;> omega)]);clear k0b k1b k2b k3b hpw hqw hpe hqe hph hqh zp zq lp lq
 cases neg
 ·have HR : Hid (P = (p, q, 0)) := lh (by rw [← HPP.out]; exact HF.out)
  go_wp2_with fail
  have l0 := (two_cells (v0 := .int .i64 p) (v1 := .int .i64 q) g0 g1).1;have l1 := (two_cells (v0 := .int .i64 p) (v1 := .int .i64 q) g0 g1).2;rw [HR.out];refine bodyPost_ret (v := .tuple #[.agg #[.int .i64 p, .int .i64 q], .int .i64 0]) (by simp [results, Tryz.results83, go_sem, l0, l1]) rfl ⟨rfl, ?_⟩;exact below_s _ _ (below_s _ _ hW3 hBr0) hBr0
 ·have HR : Hid (P = (-p, q, 0)) := lh (by rw [← HPP.out]; exact HF.out)
  go_wp2_with fail
  have l0 := (two_cells (v0 := .int .i64 (-p)) (v1 := .int .i64 q) g0 g1).1;have l1 := (two_cells (v0 := .int .i64 (-p)) (v1 := .int .i64 q) g0 g1).2;rw [HR.out];refine bodyPost_ret (v := .tuple #[.agg #[.int .i64 (-p), .int .i64 q], .int .i64 0]) (by simp [results, Tryz.results83, go_sem, l0, l1]) rfl ⟨rfl, ?_⟩;exact below_s _ _ (below_s _ _ hW3 hBr0) hBr0
def C2 (w : World) (B : Nat) (v0 v1 : Value) : Prop := w.cell? ⟨B, 0, none⟩ = some v0 ∧ w.cell? ⟨B, 1, none⟩ = some v1
theorem C2.carry {W w : World} {B : Nat} {v0 v1 : Value} (c : C2 W B v0 v1) (h : Below W.heap.size W w) : C2 w B v0 v1 :=
 ⟨(h.cell (p := ⟨B, 0, none⟩) (wl c.1)).trans c.1, (h.cell (p := ⟨B, 1, none⟩) (wl c.2)).trans c.2⟩
theorem C2.new (W : World) (v0 v1 : Value) (t : TypeId) : C2 (W.alloc (.cells #[v0, v1] t)) W.heap.size v0 v1 := ⟨by simp, by simp⟩
abbrev NewI6 := NewW
theorem NewI6.new (W : World) (t : TypeId) : NewI6 (W.alloc (.cells #[.int .i64 0, .int .i64 0] t)) W.heap.size := NewW.new W t
theorem NewI6.carry {W w : World} {b : Nat} (f : NewI6 W b) (h : Below W.heap.size W w) : NewI6 w b := NewW.carry f h
theorem rmade_any (n d : Int) (neg : Bool) (n0 : 0 ≤ n) (n1 : n ≤ 1152921504606846976) (d0 : 0 < d) (d1 : d ≤ 1152921504606846976) (w : World) :
  Calls Tryz.prog 83 #[.agg #[.int .u64 0, .int .u64 n], .bool neg, .agg #[.int .u64 0, .int .u64 d]] w fun e w' => e = .returned (.tuple #[.agg #[.int .i64 (if neg then -lowN n d else lowN n d), .int .i64 (lowD n d)], .int .i64 0]) ∧ Below w.heap.size w w' := by
 have h := rmade_wide n d neg n0 (by omega) d0 (by omega) w
 have e : fitP (if neg then -lowN n d else lowN n d) (lowD n d) = (if neg then -lowN n d else lowN n d, lowD n d, 0) := by
  have a := lowN_le n d;have b := lowD_le (n := n) d0;unfold fitP;rw [if_neg]
  cases neg <;> simp <;> omega
 rw [hiW_zero n0 (by omega), loW_small n0 (by omega), hiW_zero (by omega) (by omega), loW_small (by omega) (by omega), e] at h;exact h
theorem rmake_any (n d : Int) (n0 : -1152921504606846976 ≤ n) (n1 : n ≤ 1152921504606846976) (d0 : 0 < d) (d1 : d ≤ 1152921504606846976) (w : World) :
  Calls Tryz.prog 99 #[.int .i64 n, .int .i64 d] w fun e w' => e = .returned (.tuple #[.agg #[.int .i64 (lowN n d), .int .i64 (lowD n d)], .int .i64 0]) ∧ Below w.heap.size w w' := by
 have z1 := rsize_any n (by omega) (by omega);have z2 := rsize_any d (by omega) (by omega);rw [show (d.natAbs : Int) = d by omega] at z2;have hb : decide (d < 0) = false := dF (by omega);have hm := rmade_any (n.natAbs : Int) d (decide (n < 0)) (by omega) (by omega) d0 d1
 have e1 : (if decide (n < 0) then -lowN (n.natAbs : Int) d else lowN (n.natAbs : Int) d) = lowN n d := by
  by_cases h : n < 0
  ·rw [if_pos (decide_eq_true h), show (n.natAbs : Int) = -n by omega, lowN_neg, Int.neg_neg]
  ·rw [if_neg (by simpa using h), show (n.natAbs : Int) = n by omega]
 have e2 : lowD (n.natAbs : Int) d = lowD n d := by
  by_cases h : n < 0
  ·rw [show (n.natAbs : Int) = -n by omega, lowD_neg]
  ·rw [show (n.natAbs : Int) = n by omega]
 simp only [e1, e2] at hm;clear e1 e2;have Z1 := lh z1;have Z2 := lh z2;have HM := lh hm;clear z1 z2 hm;generalize lowN n d = p at *;generalize lowD n d = q at *;generalize hx : decide (n < 0) = b at *
 go_enter Tryz.func99, Tryz.ntmps99
 go_wp2_with (first
  | (go_at_call 34; (with_reducible refine (Z1.out _).mono ?_); rintro e w1 ⟨rfl, rfl⟩)
  | (go_at_call 34; (with_reducible refine (Z2.out _).mono ?_); rintro e w1 ⟨rfl, rfl⟩)
  | (go_at_call 83; (with_reducible refine (HM.out _).mono ?_); rintro e w1 ⟨rfl, hb1⟩; obtain ⟨g0, g1, g2, g3, g4⟩ := (NewI6.new w 29).carry hb1))
 have l0 := (two_cells (v0 := .int .i64 p) (v1 := .int .i64 q) g0 g1).1;have l1 := (two_cells (v0 := .int .i64 p) (v1 := .int .i64 q) g0 g1).2;refine bodyPost_ret (v := .tuple #[.agg #[.int .i64 p, .int .i64 q], .int .i64 0]) (by simp [results, Tryz.results99, go_sem, l0, l1]) rfl ⟨rfl, ?_⟩;exact below_s _ _ (below_s _ _ ((below_new _ _).trans (hb1.mono (by simp))) (Nat.le_refl _)) (Nat.le_refl _)
end
section
open Go.RowKit Go.Shelf
attribute [local go_sem] Oper.semAt_some
theorem rneg_any (n d : Int) (n0 : -1152921504606846976 ≤ n) (n1 : n ≤ 1152921504606846976) (w : World) : Calls Tryz.prog 54 #[.agg #[.int .i64 n, .int .i64 d]] w fun e w' => e = .returned (.agg #[.int .i64 (-n), .int .i64 d]) ∧ Below w.heap.size w w' := by
 have hw : IntKind.i64.wrap (-n) = -n := by simp only [IntKind.wrap_i64]; omega
 have HB := lh ((below_new w (.cells #[.int .i64 n, .int .i64 d] 29)).alloc (by simp) (.cells #[.int .i64 (-n), .int .i64 d] 29))
 go_enter Tryz.func54, Tryz.ntmps54
 go_wp2_with fail
 refine bodyPost_ret (v := .agg #[.int .i64 (-n), .int .i64 d]) (by simp [results, Tryz.results54, go_sem]) rfl ⟨rfl, ?_⟩;exact HB.out
theorem rreach_any (s : SetR) (z : Int) (w : World) : Calls Tryz.prog 17 #[.agg #[.string s.name, .int .i64 s.depth, .int .i64 s.low, .int .i64 s.high, .int .i64 s.length, .slice s.la s.lines.length s.lc, .int .i64 s.pipe, .int .i64 s.arbor, .int .i64 s.purchase, .int .i64 s.most, .int .i64 s.brake, .slice s.ia s.items.length s.ic, .slice s.ba s.bricks.length s.bc], .int .i64 z] w fun e w' => e = .returned (.bool (reachB s z)) ∧ Below w.heap.size w w' := by
 by_cases c : s.low ≤ z
 ·have g := decide_eq_true c
  have HR : Hid (reachB s z = decide (z ≤ s.high)) := lh (by unfold reachB; rw [g]; rfl);rw [HR.out];clear c
  go_enter Tryz.func17, Tryz.ntmps17
  go_wp2_with fail
  go_ret;exact ⟨rfl, below_new _ _⟩
 ·have g := decide_eq_false c
  have HR : Hid (reachB s z = false) := lh (by unfold reachB; rw [g]; rfl);rw [HR.out];clear c
  go_enter Tryz.func17, Tryz.ntmps17
  go_wp2_with fail
  go_ret;exact ⟨rfl, below_new _ _⟩
theorem rdist_any (f g : Int) (hf : 0 ≤ f ∧ f ≤ 1048576) (hg : 0 ≤ g ∧ g ≤ 1048576) (w : World) : Calls Tryz.prog 21 #[.int .i64 f, .int .i64 g] w fun e w' => e = .returned (.int .i64 (if f ≤ g then g - f else f - g)) ∧ w = w' := by
 have u1 : IntKind.i64.wrap (g - f) = g - f := IntWalk.i64_in _ (by omega);have u2 : IntKind.i64.wrap (f - g) = f - g := IntWalk.i64_in _ (by omega)
 by_cases c : f ≤ g
 ·have HD : Hid ((if f ≤ g then g - f else f - g) = g - f) := lh (if_pos c)
  have hm : max (f - g) (g - f) = g - f := by omega
  rw [HD.out]
  go_enter Tryz.func21, Tryz.ntmps21
  go_wp2_with fail
  go_ret;refine ⟨ret_int ?_, rfl⟩
  first | rfl | omega | (split <;> omega)
 ·have HD : Hid ((if f ≤ g then g - f else f - g) = f - g) := lh (if_neg c)
  have hm : max (f - g) (g - f) = f - g := by omega
  rw [HD.out]
  go_enter Tryz.func21, Tryz.ntmps21
  go_wp2_with fail
  go_ret;refine ⟨ret_int ?_, rfl⟩
  first | rfl | omega | (split <;> omega)
theorem items_iff3 {I : List ItemR} {len : Int} : itemsB I len = true ↔ I.length ≤ 40 ∧ ∀ j, j < I.length → item1 len (tg I j) = true ∧ ∀ i, i < j → (tg I i).name ≠ (tg I j).name ∧ apartB (tg I i) (tg I j) = true := by
 rw [items_iff2]
 have hn : (I.map (·.name)).Nodup ↔ ∀ j, j < I.length → ∀ i, i < j → (tg I i).name ≠ (tg I j).name := by
  rw [List.Nodup, List.pairwise_map, List.pairwise_iff_getElem]
  constructor
  ·intro h j hj i hi
   rw [tg_eq I i (by omega), tg_eq I j hj];exact h i j (by omega) hj hi
  ·intro h i j hi hj hij
   have := h j hj i hij
   rwa [tg_eq I i hi, tg_eq I j hj] at this
 rw [hn]
 constructor
 ·rintro ⟨a, b, c, d⟩
  exact ⟨a, fun j hj => ⟨c j hj, fun i hi => ⟨b j hj i hi, d j hj i hi⟩⟩⟩
 ·rintro ⟨a, b⟩
  exact ⟨a, fun j hj i hi => ((b j hj).2 i hi).1, fun j hj => (b j hj).1, fun j hj i hi => ((b j hj).2 i hi).2⟩
theorem ritems_any (r : SetR) (w : World) (hlen : 0 ≤ r.length ∧ r.length ≤ 1048576) (hs : SetIn w r) :
  Calls Tryz.prog 118 #[.agg #[.string r.name, .int .i64 r.depth, .int .i64 r.low, .int .i64 r.high, .int .i64 r.length, .slice r.la r.lines.length r.lc, .int .i64 r.pipe, .int .i64 r.arbor, .int .i64 r.purchase, .int .i64 r.most, .int .i64 r.brake, .slice r.ia r.items.length r.ic, .slice r.ba r.bricks.length r.bc]] w fun e w' => e = .returned (.bool (itemsB r.items r.length)) ∧ Below w.heap.size w w' := by
 have HLEN := lh hlen;obtain ⟨R, hR⟩ := nm (itemsB r.items r.length);have HI : Hid (R = true ↔ r.items.length ≤ 40 ∧ ∀ j, j < r.items.length → item1 r.length (tg r.items j) = true ∧ ∀ i, i < j → (tg r.items i).name ≠ (tg r.items j).name ∧ apartB (tg r.items i) (tg r.items j) = true) := lh (by rw [← hR]; exact items_iff3);rw [hR];clear hR;have hb0 := below_new w (LSe r);have HX : Hid (∀ wx, Below (w.alloc (LSe r)).heap.size (w.alloc (LSe r)) wx → Below w.heap.size w wx) := lh fun wx h => mono_in _ h;have HS : Hid (∀ wx, Below (w.alloc (LSe r)).heap.size (w.alloc (LSe r)) wx → SetIn wx r) := lh fun wx h => (hs.grow hb0).grow h;have HAT : Hid (∀ wx, Below (w.alloc (LSe r)).heap.size (w.alloc (LSe r)) wx → SetAt wx w.heap.size r) := lh fun wx h => (SetAt.new w r 54).below h (by simp);clear hb0 hs
 by_cases q : 40 < r.items.length
 ·have HR : Hid (R = false) := lh (by
   rw [Bool.eq_false_iff];intro h;have := (HI.out.1 h).1;omega)
  have g : decide ((40 : Int) < r.items.length) = true := dT (by omega);have g' : decide (40 < r.items.length) = true := dT (by omega);clear q
  go_enter Tryz.func118, Tryz.ntmps118
  go_wp2_with fail
  go_ret;exact ⟨ret_bool HR.out.symm, HX.out _ br⟩
 have g : decide ((40 : Int) < r.items.length) = false := dF (by omega);have g' : decide (40 < r.items.length) = false := dF (by omega);have hq : r.items.length ≤ 40 := by omega
 have HI2 : Hid (R = true ↔ ∀ j, j < r.items.length → item1 r.length (tg r.items j) = true ∧ ∀ i, i < j → (tg r.items i).name ≠ (tg r.items j).name ∧ apartB (tg r.items i) (tg r.items j) = true) := lh (by rw [HI.out]; exact ⟨fun h => h.2, fun h => ⟨hq, h⟩⟩);clear q HI
 go_enter Tryz.func118, Tryz.ntmps118
 go_wp2_with fail
 generalize (w.alloc (LSe r)) = W0 at *;have hB1 := Below.refl W0.heap.size W0;obtain ⟨-, -, -, -, x4, -, -, -, -, -, -, x11, -⟩ := set13 HAT
 go_loopw [3] (fun i wr => ∃ k : Nat, k ≤ r.items.length ∧ i = .int .i64 k ∧ Hid (∀ j, j < k → item1 r.length (tg r.items j) = true ∧ ∀ i, i < j → (tg r.items i).name ≠ (tg r.items j).name ∧ apartB (tg r.items i) (tg r.items j) = true) ∧ Below W0.heap.size W0 wr) (fun i _ => r.items.length - (intOf i).toNat)
 case atStart => exact ⟨0, Nat.zero_le _, rfl, lh (fun j hj => by omega), hB1⟩
 case round =>
  obtain ⟨k, hk, rfl, HO, hB⟩ := hrel
  by_cases hlt : k < r.items.length
  ·obtain ⟨b, off, hia, _, _⟩ := (HS.out W0 hB1).items (by omega)
   have y11 : ∀ wx, Below W0.heap.size W0 wx → wx.cell? ⟨w.heap.size, 11, none⟩ = some (.slice (some ⟨b, off, none⟩) r.items.length r.ic) := fun wx h => by rw [← hia]; exact x11 wx h
   have HIA := lh hia;clear x11 hia;obtain ⟨x, hx⟩ := nm (tg r.items k)
   have c0 : ∀ wx, Below W0.heap.size W0 wx → wx.cell? ⟨b, off + k * 7, none⟩ = some (.string (tg r.items k).name) := fun wx h => by
    obtain ⟨b', off', e, _, hc⟩ := (HS.out wx h).items (by omega);rw [HIA.out] at e
    cases e
    exact (hc k hlt).1
   have c1 : ∀ wx, Below W0.heap.size W0 wx → wx.cell? ⟨b, off + k * 7 + 1, none⟩ = some (.int .i64 (tg r.items k).pos) := fun wx h => by
    obtain ⟨b', off', e, _, hc⟩ := (HS.out wx h).items (by omega);rw [HIA.out] at e
    cases e
    exact (hc k hlt).2.1
   have c2 : ∀ wx, Below W0.heap.size W0 wx → wx.cell? ⟨b, off + k * 7 + 2, none⟩ = some (.int .i64 (tg r.items k).width) := fun wx h => by
    obtain ⟨b', off', e, _, hc⟩ := (HS.out wx h).items (by omega);rw [HIA.out] at e
    cases e
    exact (hc k hlt).2.2.1
   have c3 : ∀ wx, Below W0.heap.size W0 wx → wx.cell? ⟨b, off + k * 7 + 3, none⟩ = some (.int .i64 (tg r.items k).weight) := fun wx h => by
    obtain ⟨b', off', e, _, hc⟩ := (HS.out wx h).items (by omega);rw [HIA.out] at e
    cases e
    exact (hc k hlt).2.2.2.1
   have c4 : ∀ wx, Below W0.heap.size W0 wx → wx.cell? ⟨b, off + k * 7 + 4, none⟩ = some (.int .i64 (tg r.items k).hang) := fun wx h => by
    obtain ⟨b', off', e, _, hc⟩ := (HS.out wx h).items (by omega);rw [HIA.out] at e
    cases e
    exact (hc k hlt).2.2.2.2.1
   have c5 : ∀ wx, Below W0.heap.size W0 wx → wx.cell? ⟨b, off + k * 7 + 5, none⟩ = some (.int .i64 (tg r.items k).front) := fun wx h => by
    obtain ⟨b', off', e, _, hc⟩ := (HS.out wx h).items (by omega);rw [HIA.out] at e
    cases e
    exact (hc k hlt).2.2.2.2.2.1
   have c6 : ∀ wx, Below W0.heap.size W0 wx → wx.cell? ⟨b, off + k * 7 + 6, none⟩ = some (.int .i64 (tg r.items k).back) := fun wx h => by
    obtain ⟨b', off', e, _, hc⟩ := (HS.out wx h).items (by omega);rw [HIA.out] at e
    cases e
    exact (hc k hlt).2.2.2.2.2.2
   have HN : Hid (item1 r.length x = false → R = false) := lh fun h => by
    rw [Bool.eq_false_iff];intro q;rw [← hx, (HI2.out.1 q k hlt).1] at h;cases h
   have HNB : Hid (∀ i, i < k → ¬ ((tg r.items i).name ≠ x.name ∧ apartB (tg r.items i) x = true) → R = false) := lh fun i hi h => by
    rw [Bool.eq_false_iff];intro q
    apply h
    rw [← hx];exact (HI2.out.1 q k hlt).2 i hi
   have HY : Hid (item1 r.length x = true → (∀ i, i < k → (tg r.items i).name ≠ x.name ∧ apartB (tg r.items i) x = true) → ∀ j, j < k + 1 → item1 r.length (tg r.items j) = true ∧ ∀ i, i < j → (tg r.items i).name ≠ (tg r.items j).name ∧ apartB (tg r.items i) (tg r.items j) = true) := lh fun h h2 j hj => by
    rcases (show j < k ∨ j = k by omega) with l | l
    ·exact HO.out j l
    ·subst l; rw [hx]; exact ⟨h, h2⟩
   rw [hx] at c0 c1 c2 c3 c4 c5 c6;clear hx;have k1 : (k : Int) < r.items.length := by omega
   cases hv : item1 r.length x
   ·have HV := lh hv
    have HR := lh (HN.out hv);clear hv HN HNB HY
    go_wp2_with fail
    refine wp_region_held_drew (S := (fun w' => Below W0.heap.size W0 w')) (by kernel_rfl) (hB.drew) (fun hHeld => ?_);refine tkB 0 ?_;simp only [Act.put, s_1, s_2, s_3, s_4, s_6];refine tkB 1 ?_;simp only [Act.put, s_1, s_2, s_3, s_4, s_5, s_6];refine tkB 2 ?_;simp only [Act.put, s_1, s_2, s_3, s_4, s_5, s_6];refine tkB 3 ?_;simp only [Act.put, s_1, s_2, s_3, s_4, s_5, s_6];refine tkB 4 ?_;simp only [Act.put, s_1, s_2, s_3, s_4, s_5, s_6];refine tkB 5 ?_;simp only [Act.put, s_1, s_2, s_3, s_4, s_5, s_6];refine tkB 6 ?_;simp only [Act.put, s_1, s_2, s_3, s_4, s_5, s_6];refine r1 7 (fun K hK => ?_)
    try simp only [s_4, s_5, s_6]
    go_simp
    (go_at_call 134; go_split_ands; (with_reducible refine (ralone_any x r.length _ HLEN.out).mono ?_); rintro e w2 ⟨rfl, hb⟩; rw [HV.out])
    go_wp2_with fail
    refine hK.out _ _ (hHeld.trans (hb.mono hHeld.size)) (fun hHeld => ?_);clear hK K
    try simp only [Act.put, s_1, s_2, s_3, s_4, s_5, s_6]
    refine tkB 8 ?_;simp only [Act.put, s_1, s_2, s_3, s_4, s_5, s_6];refine wpAnyH_done (by kernel_rfl) ?_ _
    go_wp2_with fail
    go_ret;exact ⟨ret_bool HR.out.symm, HX.out _ hHeld⟩
   have HV := lh hv;have HY2 := lh (HY.out hv);clear hv HN HY
   go_wp2_with fail
   refine wp_region_held_drew (S := (fun w' => Below W0.heap.size W0 w')) (by kernel_rfl) (hB.drew) (fun hHeld => ?_);refine tkB 0 ?_;simp only [Act.put, s_1, s_2, s_3, s_4, s_6];refine tkB 1 ?_;simp only [Act.put, s_1, s_2, s_3, s_4, s_5, s_6];refine tkB 2 ?_;simp only [Act.put, s_1, s_2, s_3, s_4, s_5, s_6];refine tkB 3 ?_;simp only [Act.put, s_1, s_2, s_3, s_4, s_5, s_6];refine tkB 4 ?_;simp only [Act.put, s_1, s_2, s_3, s_4, s_5, s_6];refine tkB 5 ?_;simp only [Act.put, s_1, s_2, s_3, s_4, s_5, s_6];refine tkB 6 ?_;simp only [Act.put, s_1, s_2, s_3, s_4, s_5, s_6];refine r1 7 (fun K hK => ?_)
   try simp only [s_4, s_5, s_6]
   go_simp
   (go_at_call 134; go_split_ands; (with_reducible refine (ralone_any x r.length _ HLEN.out).mono ?_); rintro e w2 ⟨rfl, hb⟩; rw [HV.out])
   go_wp2_with fail
   refine hK.out _ _ (hHeld.trans (hb.mono hHeld.size)) (fun hHeld => ?_);clear hK K
   try simp only [Act.put, s_1, s_2, s_3, s_4, s_5, s_6]
   refine tkB 8 ?_;simp only [Act.put, s_1, s_2, s_3, s_4, s_5, s_6];refine wpAnyH_done (by kernel_rfl) ?_ _;clear hb;have hB2 := hHeld;clear hHeld
   go_wp2_with fail
   go_loopw [4] (fun i wr => ∃ m : Nat, m ≤ k ∧ i = .int .i64 m ∧ Hid (∀ i, i < m → (tg r.items i).name ≠ x.name ∧ apartB (tg r.items i) x = true) ∧ Below W0.heap.size W0 wr) (fun i _ => k - (intOf i).toNat)
   case atStart => exact ⟨0, Nat.zero_le _, rfl, lh (fun j hj => by omega), hB2⟩
   case round =>
    obtain ⟨m, hm, rfl, HA, hD⟩ := hrel
    by_cases hlm : m < k
    ·obtain ⟨y, hy⟩ := nm (tg r.items m)
     have hmlt : m < r.items.length := by omega
     have d0 : ∀ wx, Below W0.heap.size W0 wx → wx.cell? ⟨b, off + m * 7, none⟩ = some (.string (tg r.items m).name) := fun wx h => by
      obtain ⟨b', off', e, _, hc⟩ := (HS.out wx h).items (by omega);rw [HIA.out] at e
      cases e
      exact (hc m hmlt).1
     have d1 : ∀ wx, Below W0.heap.size W0 wx → wx.cell? ⟨b, off + m * 7 + 1, none⟩ = some (.int .i64 (tg r.items m).pos) := fun wx h => by
      obtain ⟨b', off', e, _, hc⟩ := (HS.out wx h).items (by omega);rw [HIA.out] at e
      cases e
      exact (hc m hmlt).2.1
     have d2 : ∀ wx, Below W0.heap.size W0 wx → wx.cell? ⟨b, off + m * 7 + 2, none⟩ = some (.int .i64 (tg r.items m).width) := fun wx h => by
      obtain ⟨b', off', e, _, hc⟩ := (HS.out wx h).items (by omega);rw [HIA.out] at e
      cases e
      exact (hc m hmlt).2.2.1
     have d3 : ∀ wx, Below W0.heap.size W0 wx → wx.cell? ⟨b, off + m * 7 + 3, none⟩ = some (.int .i64 (tg r.items m).weight) := fun wx h => by
      obtain ⟨b', off', e, _, hc⟩ := (HS.out wx h).items (by omega);rw [HIA.out] at e
      cases e
      exact (hc m hmlt).2.2.2.1
     have d4 : ∀ wx, Below W0.heap.size W0 wx → wx.cell? ⟨b, off + m * 7 + 4, none⟩ = some (.int .i64 (tg r.items m).hang) := fun wx h => by
      obtain ⟨b', off', e, _, hc⟩ := (HS.out wx h).items (by omega);rw [HIA.out] at e
      cases e
      exact (hc m hmlt).2.2.2.2.1
     have d5 : ∀ wx, Below W0.heap.size W0 wx → wx.cell? ⟨b, off + m * 7 + 5, none⟩ = some (.int .i64 (tg r.items m).front) := fun wx h => by
      obtain ⟨b', off', e, _, hc⟩ := (HS.out wx h).items (by omega);rw [HIA.out] at e
      cases e
      exact (hc m hmlt).2.2.2.2.2.1
     have d6 : ∀ wx, Below W0.heap.size W0 wx → wx.cell? ⟨b, off + m * 7 + 6, none⟩ = some (.int .i64 (tg r.items m).back) := fun wx h => by
      obtain ⟨b', off', e, _, hc⟩ := (HS.out wx h).items (by omega);rw [HIA.out] at e
      cases e
      exact (hc m hmlt).2.2.2.2.2.2
     have HZ : Hid (¬ (y.name ≠ x.name ∧ apartB y x = true) → R = false) := lh (by rw [← hy]; exact HNB.out m hlm)
     have HA2 : Hid (y.name ≠ x.name → apartB y x = true → ∀ i, i < m + 1 → (tg r.items i).name ≠ x.name ∧ apartB (tg r.items i) x = true) := lh fun h1 h2 i hi => by
      rcases (show i < m ∨ i = m by omega) with l | l
      ·exact HA.out i l
      ·subst l; rw [hy]; exact ⟨h1, h2⟩
     have HW : Hid (apartW y x = apartB y x) := lh (apartW_is (by rw [← hy]; exact (HO.out m hlm).1) HV.out HLEN.out);rw [hy] at d0 d1 d2 d3 d4 d5 d6;clear hy;have m1 : (m : Int) < r.items.length := by omega
     have m2 : (m : Int) < (k : Int) := by omega
     by_cases hne : y.name = x.name
     ·have g1 : (y.name.toList == x.name.toList) = true := by rw [str_eq]; exact decide_eq_true hne
      have HR := lh (HZ.out fun h => h.1 hne);clear hne HZ HA2
      go_wp2_with fail
      refine wp_region_held_drew (S := (fun w' => Below W0.heap.size W0 w')) (by kernel_rfl) (hD.drew) (fun hHeld => ?_);refine tkB 0 ?_;simp only [Act.put, s_1, s_2, s_3, s_4, s_6];refine tkB 1 ?_;simp only [Act.put, s_1, s_2, s_3, s_4, s_5, s_6];refine tkB 2 ?_;simp only [Act.put, s_1, s_2, s_3, s_4, s_5, s_6];refine tkB 3 ?_;simp only [Act.put, s_1, s_2, s_3, s_4, s_5, s_6];refine tkB 4 ?_;simp only [Act.put, s_1, s_2, s_3, s_4, s_5, s_6];refine tkB 5 ?_;simp only [Act.put, s_1, s_2, s_3, s_4, s_5, s_6];refine tkB 6 ?_;simp only [Act.put, s_1, s_2, s_3, s_4, s_5, s_6];refine tkB 7 ?_;simp only [Act.put, s_1, s_2, s_3, s_4, s_5, s_6];refine tkB 8 ?_;simp only [Act.put, s_1, s_2, s_3, s_4, s_5, s_6];refine tkB 9 ?_;simp only [Act.put, s_1, s_2, s_3, s_4, s_5, s_6];refine tkB 10 ?_;simp only [Act.put, s_1, s_2, s_3, s_4, s_5, s_6];refine tkB 11 ?_;simp only [Act.put, s_1, s_2, s_3, s_4, s_5, s_6];refine tkB 12 ?_;simp only [Act.put, s_1, s_2, s_3, s_4, s_5, s_6];refine tkB 13 ?_;simp only [Act.put, s_1, s_2, s_3, s_4, s_5, s_6];refine tkS 14 ?_;simp only [Act.put, s_1, s_2, s_3, s_4, s_5, s_6];refine tkS 15 ?_;simp only [Act.put, s_1, s_2, s_3, s_4, s_5, s_6];refine tkS 16 ?_;simp only [Act.put, s_1, s_2, s_3, s_4, s_5, s_6];refine tkS 17 ?_;simp only [Act.put, s_1, s_2, s_3, s_4, s_5, s_6];refine tkS 18 ?_;simp only [Act.put, s_1, s_2, s_3, s_4, s_5, s_6];refine tkS 19 ?_;simp only [Act.put, s_1, s_2, s_3, s_4, s_5, s_6];refine tkS 20 ?_;simp only [Act.put, s_1, s_2, s_3, s_4, s_5, s_6];refine tkS 21 ?_;simp only [Act.put, s_1, s_2, s_3, s_4, s_5, s_6];refine tkS 22 ?_;simp only [Act.put, s_1, s_2, s_3, s_4, s_5, s_6];refine tkS 23 ?_;simp only [Act.put, s_1, s_2, s_3, s_4, s_5, s_6];refine tkS 24 ?_;simp only [Act.put, s_1, s_2, s_3, s_4, s_5, s_6];refine tkS 25 ?_;simp only [Act.put, s_1, s_2, s_3, s_4, s_5, s_6];refine tkB 26 ?_;simp only [Act.put, s_1, s_2, s_3, s_4, s_5, s_6];refine wpAnyH_done (by kernel_rfl) ?_ _
      go_wp2_with fail
      go_ret;exact ⟨ret_bool HR.out.symm, HX.out _ hHeld⟩
     have g1 : (y.name.toList == x.name.toList) = false := by rw [str_eq]; exact decide_eq_false hne
     cases hv2 : apartB y x
     ·have HV2 : Hid (apartW y x = false) := lh (by rw [HW.out, hv2])
      have HR := lh (HZ.out fun h => by rw [hv2] at h; cases h.2);clear hne HZ HA2 hv2
      go_wp2_with fail
      refine wp_region_held_drew (S := (fun w' => Below W0.heap.size W0 w')) (by kernel_rfl) (hD.drew) (fun hHeld => ?_);refine tkB 0 ?_;simp only [Act.put, s_1, s_2, s_3, s_4, s_6];refine tkB 1 ?_;simp only [Act.put, s_1, s_2, s_3, s_4, s_5, s_6];refine tkB 2 ?_;simp only [Act.put, s_1, s_2, s_3, s_4, s_5, s_6];refine tkB 3 ?_;simp only [Act.put, s_1, s_2, s_3, s_4, s_5, s_6];refine tkB 4 ?_;simp only [Act.put, s_1, s_2, s_3, s_4, s_5, s_6];refine tkB 5 ?_;simp only [Act.put, s_1, s_2, s_3, s_4, s_5, s_6];refine tkB 6 ?_;simp only [Act.put, s_1, s_2, s_3, s_4, s_5, s_6];refine tkB 7 ?_;simp only [Act.put, s_1, s_2, s_3, s_4, s_5, s_6];refine tkB 8 ?_;simp only [Act.put, s_1, s_2, s_3, s_4, s_5, s_6];refine tkB 9 ?_;simp only [Act.put, s_1, s_2, s_3, s_4, s_5, s_6];refine tkB 10 ?_;simp only [Act.put, s_1, s_2, s_3, s_4, s_5, s_6];refine tkB 11 ?_;simp only [Act.put, s_1, s_2, s_3, s_4, s_5, s_6];refine tkB 12 ?_;simp only [Act.put, s_1, s_2, s_3, s_4, s_5, s_6];refine tkB 13 ?_;simp only [Act.put, s_1, s_2, s_3, s_4, s_5, s_6];refine tkB 14 ?_;simp only [Act.put, s_1, s_2, s_3, s_4, s_5, s_6];refine tkB 15 ?_;simp only [Act.put, s_1, s_2, s_3, s_4, s_5, s_6];refine tkB 16 ?_;simp only [Act.put, s_1, s_2, s_3, s_4, s_5, s_6];refine tkB 17 ?_;simp only [Act.put, s_1, s_2, s_3, s_4, s_5, s_6];refine tkB 18 ?_;simp only [Act.put, s_1, s_2, s_3, s_4, s_5, s_6];refine tkB 19 ?_;simp only [Act.put, s_1, s_2, s_3, s_4, s_5, s_6];refine tkB 20 ?_;simp only [Act.put, s_1, s_2, s_3, s_4, s_5, s_6];refine tkB 21 ?_;simp only [Act.put, s_1, s_2, s_3, s_4, s_5, s_6];refine tkB 22 ?_;simp only [Act.put, s_1, s_2, s_3, s_4, s_5, s_6];refine tkB 23 ?_;simp only [Act.put, s_1, s_2, s_3, s_4, s_5, s_6];refine r1 24 (fun K hK => ?_)
      try simp only [s_4, s_5, s_6]
      go_simp
      (go_at_call 135; go_split_ands; (with_reducible refine (rapart_any y x _).mono ?_); rintro e w2 ⟨rfl, hb⟩; rw [HV2.out])
      go_wp2_with fail
      refine hK.out _ _ (hHeld.trans (hb.mono hHeld.size)) (fun hHeld => ?_);clear hK K
      try simp only [Act.put, s_1, s_2, s_3, s_4, s_5, s_6]
      refine tkB 25 ?_;simp only [Act.put, s_1, s_2, s_3, s_4, s_5, s_6];refine tkB 26 ?_;simp only [Act.put, s_1, s_2, s_3, s_4, s_5, s_6];refine wpAnyH_done (by kernel_rfl) ?_ _
      go_wp2_with fail
      go_ret;exact ⟨ret_bool HR.out.symm, HX.out _ hHeld⟩
     have HV2 : Hid (apartW y x = true) := lh (by rw [HW.out, hv2]);have HA3 := lh (HA2.out hne hv2);clear hne HZ HA2 hv2
     go_wp2_with fail
     refine wp_region_held_drew (S := (fun w' => Below W0.heap.size W0 w')) (by kernel_rfl) (hD.drew) (fun hHeld => ?_);refine tkB 0 ?_;simp only [Act.put, s_1, s_2, s_3, s_4, s_6];refine tkB 1 ?_;simp only [Act.put, s_1, s_2, s_3, s_4, s_5, s_6];refine tkB 2 ?_;simp only [Act.put, s_1, s_2, s_3, s_4, s_5, s_6];refine tkB 3 ?_;simp only [Act.put, s_1, s_2, s_3, s_4, s_5, s_6];refine tkB 4 ?_;simp only [Act.put, s_1, s_2, s_3, s_4, s_5, s_6];refine tkB 5 ?_;simp only [Act.put, s_1, s_2, s_3, s_4, s_5, s_6];refine tkB 6 ?_;simp only [Act.put, s_1, s_2, s_3, s_4, s_5, s_6];refine tkB 7 ?_;simp only [Act.put, s_1, s_2, s_3, s_4, s_5, s_6];refine tkB 8 ?_;simp only [Act.put, s_1, s_2, s_3, s_4, s_5, s_6];refine tkB 9 ?_;simp only [Act.put, s_1, s_2, s_3, s_4, s_5, s_6];refine tkB 10 ?_;simp only [Act.put, s_1, s_2, s_3, s_4, s_5, s_6];refine tkB 11 ?_;simp only [Act.put, s_1, s_2, s_3, s_4, s_5, s_6];refine tkB 12 ?_;simp only [Act.put, s_1, s_2, s_3, s_4, s_5, s_6];refine tkB 13 ?_;simp only [Act.put, s_1, s_2, s_3, s_4, s_5, s_6];refine tkB 14 ?_;simp only [Act.put, s_1, s_2, s_3, s_4, s_5, s_6];refine tkB 15 ?_;simp only [Act.put, s_1, s_2, s_3, s_4, s_5, s_6];refine tkB 16 ?_;simp only [Act.put, s_1, s_2, s_3, s_4, s_5, s_6];refine tkB 17 ?_;simp only [Act.put, s_1, s_2, s_3, s_4, s_5, s_6];refine tkB 18 ?_;simp only [Act.put, s_1, s_2, s_3, s_4, s_5, s_6];refine tkB 19 ?_;simp only [Act.put, s_1, s_2, s_3, s_4, s_5, s_6];refine tkB 20 ?_;simp only [Act.put, s_1, s_2, s_3, s_4, s_5, s_6];refine tkB 21 ?_;simp only [Act.put, s_1, s_2, s_3, s_4, s_5, s_6];refine tkB 22 ?_;simp only [Act.put, s_1, s_2, s_3, s_4, s_5, s_6];refine tkB 23 ?_;simp only [Act.put, s_1, s_2, s_3, s_4, s_5, s_6];refine r1 24 (fun K hK => ?_)
     try simp only [s_4, s_5, s_6]
     go_simp
     (go_at_call 135; go_split_ands; (with_reducible refine (rapart_any y x _).mono ?_); rintro e w2 ⟨rfl, hb⟩; rw [HV2.out])
     go_wp2_with fail
     refine hK.out _ _ (hHeld.trans (hb.mono hHeld.size)) (fun hHeld => ?_);clear hK K
     try simp only [Act.put, s_1, s_2, s_3, s_4, s_5, s_6]
     refine tkB 25 ?_;simp only [Act.put, s_1, s_2, s_3, s_4, s_5, s_6];refine tkB 26 ?_;simp only [Act.put, s_1, s_2, s_3, s_4, s_5, s_6];refine wpAnyH_done (by kernel_rfl) ?_ _
     go_wp2_with fail
     go_roundw
     case rel => exact ⟨m + 1, by omega, by go_num, HA3, hHeld⟩
     case measure => simp [intOf]; omega
    ·obtain rfl : m = k := by omega
     have HN3 := lh (HY2.out HA.out)
     go_wp2_with fail
     go_roundw
     case rel => exact ⟨m + 1, by omega, by go_num, HN3, hD⟩
     case measure => simp [intOf]; omega
  ·obtain rfl : k = r.items.length := by omega
   have HR : Hid (R = true) := lh (HI2.out.2 HO.out)
   go_wp2_with fail
   go_ret;exact ⟨ret_bool HR.out.symm, HX.out _ hB⟩
def rsetB (r : SetR) (L : Bool) : Bool :=
 isNameB r.name && (betB r.depth 0 1048576 && (betB r.low 0 r.high && (betB r.high 0 1048576 && (betB r.length 1000 1048576 && ((r.length % 1000 == 0) && (betB r.lines.length 2 10 &&
  (betB r.pipe 0 1048576 && (betB r.arbor 0 1048576 && (betB r.purchase 1 2 && (betB r.most 1 67108864 && (betB r.brake 0 67108864 && (L && (itemsB r.items r.length && brickB r.bricks)))))))))))))
theorem rsetB_eq (r : SetR) (L : Bool) (h : betB r.lines.length 2 10 = true → (L = true ↔ ∀ j, j < r.lines.length → betB (ig r.lines j) 0 r.length = true ∧ (0 < j → ig r.lines (j - 1) < ig r.lines j))) : rsetB r L = setB r := by
 rw [Bool.eq_iff_iff, setB_iff];unfold rsetB;simp only [Bool.and_eq_true, beq_iff_eq]
 constructor
 ·rintro ⟨h1, h2, h3, h4, h5, h6, h7, h8, h9, h10, h11, h12, h13, h14, h15⟩
  have l1 := betB_iff.1 h3;have l2 := betB_iff.1 h4;have l3 := betB_iff.1 h5;exact ⟨h1, betB_iff.1 h2, ⟨l1.1, l1.2, l2.2⟩, ⟨l3.1, l3.2, h6⟩, lines_iff2.2 ⟨h7, (h h7).1 h13⟩, betB_iff.1 h8, betB_iff.1 h9, betB_iff.1 h10, betB_iff.1 h11, betB_iff.1 h12, h14, h15⟩
 ·intro q
  obtain ⟨h7, h13⟩ := lines_iff2.1 q.lines;obtain ⟨a, b, c⟩ := q.low;obtain ⟨d, e, g⟩ := q.length;exact ⟨q.name, betB_iff.2 q.depth, betB_iff.2 ⟨a, b⟩, betB_iff.2 ⟨by omega, c⟩, betB_iff.2 ⟨d, e⟩, g, h7, betB_iff.2 q.pipe, betB_iff.2 q.arbor, betB_iff.2 q.purchase, betB_iff.2 q.most, betB_iff.2 q.brake, (h h7).2 h13, q.items, q.bricks⟩
theorem rvalid_any (r : SetR) (w : World) (hs : SetIn w r) :
  Calls Tryz.prog 96 #[.agg #[.string r.name, .int .i64 r.depth, .int .i64 r.low, .int .i64 r.high, .int .i64 r.length, .slice r.la r.lines.length r.lc, .int .i64 r.pipe, .int .i64 r.arbor, .int .i64 r.purchase, .int .i64 r.most, .int .i64 r.brake, .slice r.ia r.items.length r.ic, .slice r.ba r.bricks.length r.bc]] w fun e w' => e = .returned (.bool (setB r)) ∧ Below w.heap.size w w' := by
 obtain ⟨L, hL⟩ : ∃ L : Bool, L = true ↔ ∀ j, j < r.lines.length → betB (ig r.lines j) 0 r.length = true ∧ (0 < j → ig r.lines (j - 1) < ig r.lines j) := by
  by_cases h : ∀ j, j < r.lines.length → betB (ig r.lines j) 0 r.length = true ∧ (0 < j → ig r.lines (j - 1) < ig r.lines j)
  ·exact ⟨true, fun _ => h, fun _ => rfl⟩
  ·exact ⟨false, fun h => by (cases h), fun q => absurd q h⟩
 rw [← rsetB_eq r L fun _ => hL];obtain ⟨RR, hR⟩ := nm (rsetB r L)
 have HF : Hid ((isNameB r.name && (betB r.depth 0 1048576 && (betB r.low 0 r.high && (betB r.high 0 1048576 && (betB r.length 1000 1048576 && ((r.length % 1000 == 0) && (betB r.lines.length 2 10 && (betB r.pipe 0 1048576 && (betB r.arbor 0 1048576 && (betB r.purchase 1 2 && (betB r.most 1 67108864 && (betB r.brake 0 67108864)))))))))))) = false → RR = false) := lh fun h => by
  rw [← hR, Bool.eq_false_iff];intro q;unfold rsetB at q;simp only [Bool.and_eq_true] at q;obtain ⟨a1, a2, a3, a4, a5, a6, a7, a8, a9, a10, a11, a12, _⟩ := q;rw [a1, a2, a3, a4, a5, a6, a7, a8, a9, a10, a11, a12] at h;cases h
 have HL2 : Hid ((¬ ∀ j, j < r.lines.length → betB (ig r.lines j) 0 r.length = true ∧ (0 < j → ig r.lines (j - 1) < ig r.lines j)) → RR = false) := lh fun h => by
  rw [← hR, Bool.eq_false_iff];intro q;unfold rsetB at q;simp only [Bool.and_eq_true] at q;obtain ⟨_, _, _, _, _, _, _, _, _, _, _, _, q, _⟩ := q;exact h (hL.1 q)
 have HL3 : Hid ((isNameB r.name && (betB r.depth 0 1048576 && (betB r.low 0 r.high && (betB r.high 0 1048576 && (betB r.length 1000 1048576 && ((r.length % 1000 == 0) && (betB r.lines.length 2 10 && (betB r.pipe 0 1048576 && (betB r.arbor 0 1048576 && (betB r.purchase 1 2 && (betB r.most 1 67108864 && (betB r.brake 0 67108864)))))))))))) = true → (∀ j, j < r.lines.length → betB (ig r.lines j) 0 r.length = true ∧ (0 < j → ig r.lines (j - 1) < ig r.lines j)) → RR = (itemsB r.items r.length && brickB r.bricks)) := lh fun h h2 => by
  rw [← hR];unfold rsetB;simp only [Bool.and_eq_true] at h;simp only [h, hL.2 h2, Bool.true_and]
 rw [hR];clear hR hL;have hb0 := below_new w (LSe r);have HX : Hid (∀ wx, Below (w.alloc (LSe r)).heap.size (w.alloc (LSe r)) wx → Below w.heap.size w wx) := lh fun wx h => mono_in _ h;have HS : Hid (∀ wx, Below (w.alloc (LSe r)).heap.size (w.alloc (LSe r)) wx → SetIn wx r) := lh fun wx h => (hs.grow hb0).grow h;have HAT : Hid (∀ wx, Below (w.alloc (LSe r)).heap.size (w.alloc (LSe r)) wx → SetAt wx w.heap.size r) := lh fun wx h => (SetAt.new w r 54).below h (by simp);clear hb0 hs
 go_enter Tryz.func96, Tryz.ntmps96
 go_wp2_with fail
 generalize (w.alloc (LSe r)) = W0 at *;have hB1 := Below.refl W0.heap.size W0;obtain ⟨x0, x1, x2, x3, x4, x5, x6, x7, x8, x9, x10, x11, x12⟩ := set13 HAT
 cases h0 : isNameB r.name
 ·have HR : Hid ((isNameB r.name && (betB r.depth 0 1048576 && (betB r.low 0 r.high && (betB r.high 0 1048576 && (betB r.length 1000 1048576 && ((r.length % 1000 == 0) && (betB r.lines.length 2 10 && (betB r.pipe 0 1048576 && (betB r.arbor 0 1048576 && (betB r.purchase 1 2 && (betB r.most 1 67108864 && (betB r.brake 0 67108864)))))))))))) = false) := lh (by simp only [h0, Bool.false_and])
  have H0 := lh h0;clear h0;have HR2 := lh (HF.out HR.out);clear HF
  go_wp2_with (first
   | (go_at_call 94; (with_reducible refine (refisName_any r.name _).mono ?_); rintro e w1 ⟨rfl, rfl⟩; rw [H0.out]))
  go_ret;exact ⟨ret_bool HR2.out.symm, HX.out _ hB1⟩
 cases h1 : betB r.depth 0 1048576
 ·have HR : Hid ((isNameB r.name && (betB r.depth 0 1048576 && (betB r.low 0 r.high && (betB r.high 0 1048576 && (betB r.length 1000 1048576 && ((r.length % 1000 == 0) && (betB r.lines.length 2 10 && (betB r.pipe 0 1048576 && (betB r.arbor 0 1048576 && (betB r.purchase 1 2 && (betB r.most 1 67108864 && (betB r.brake 0 67108864)))))))))))) = false) := lh (by simp only [h0, h1, Bool.true_and, Bool.false_and])
  have H0 := lh h0;have H1 := lh h1;clear h0 h1;have HR2 := lh (HF.out HR.out);clear HF
  go_wp2_with (first
   | (go_at_call 94; (with_reducible refine (refisName_any r.name _).mono ?_); rintro e w1 ⟨rfl, rfl⟩; rw [H0.out])
   | (go_at_call 117; (with_reducible refine (rbetw_any r.depth 0 1048576 _).mono ?_); rintro e w1 ⟨rfl, rfl⟩; rw [H1.out]))
  go_ret;exact ⟨ret_bool HR2.out.symm, HX.out _ hB1⟩
 cases h2 : betB r.low 0 r.high
 ·have HR : Hid ((isNameB r.name && (betB r.depth 0 1048576 && (betB r.low 0 r.high && (betB r.high 0 1048576 && (betB r.length 1000 1048576 && ((r.length % 1000 == 0) && (betB r.lines.length 2 10 && (betB r.pipe 0 1048576 && (betB r.arbor 0 1048576 && (betB r.purchase 1 2 && (betB r.most 1 67108864 && (betB r.brake 0 67108864)))))))))))) = false) := lh (by simp only [h0, h1, h2, Bool.true_and, Bool.false_and])
  have H0 := lh h0;have H1 := lh h1;have H2 := lh h2;clear h0 h1 h2;have HR2 := lh (HF.out HR.out);clear HF
  go_wp2_with (first
   | (go_at_call 94; (with_reducible refine (refisName_any r.name _).mono ?_); rintro e w1 ⟨rfl, rfl⟩; rw [H0.out])
   | (go_at_call 117; (with_reducible refine (rbetw_any _ _ _ _).mono ?_); rintro e w1 ⟨rfl, rfl⟩; simp only [H1.out, H2.out]))
  go_ret;exact ⟨ret_bool HR2.out.symm, HX.out _ hB1⟩
 cases h3 : betB r.high 0 1048576
 ·have HR : Hid ((isNameB r.name && (betB r.depth 0 1048576 && (betB r.low 0 r.high && (betB r.high 0 1048576 && (betB r.length 1000 1048576 && ((r.length % 1000 == 0) && (betB r.lines.length 2 10 && (betB r.pipe 0 1048576 && (betB r.arbor 0 1048576 && (betB r.purchase 1 2 && (betB r.most 1 67108864 && (betB r.brake 0 67108864)))))))))))) = false) := lh (by simp only [h0, h1, h2, h3, Bool.true_and, Bool.false_and])
  have H0 := lh h0;have H1 := lh h1;have H2 := lh h2;have H3 := lh h3;clear h0 h1 h2 h3;have HR2 := lh (HF.out HR.out);clear HF
  go_wp2_with (first
   | (go_at_call 94; (with_reducible refine (refisName_any r.name _).mono ?_); rintro e w1 ⟨rfl, rfl⟩; rw [H0.out])
   | (go_at_call 117; (with_reducible refine (rbetw_any _ _ _ _).mono ?_); rintro e w1 ⟨rfl, rfl⟩; simp only [H1.out, H2.out, H3.out]))
  go_ret;exact ⟨ret_bool HR2.out.symm, HX.out _ hB1⟩
 cases h4 : betB r.length 1000 1048576
 ·have HR : Hid ((isNameB r.name && (betB r.depth 0 1048576 && (betB r.low 0 r.high && (betB r.high 0 1048576 && (betB r.length 1000 1048576 && ((r.length % 1000 == 0) && (betB r.lines.length 2 10 && (betB r.pipe 0 1048576 && (betB r.arbor 0 1048576 && (betB r.purchase 1 2 && (betB r.most 1 67108864 && (betB r.brake 0 67108864)))))))))))) = false) := lh (by simp only [h0, h1, h2, h3, h4, Bool.true_and, Bool.false_and])
  have H0 := lh h0;have H1 := lh h1;have H2 := lh h2;have H3 := lh h3;have H4 := lh h4;clear h0 h1 h2 h3 h4;have HR2 := lh (HF.out HR.out);clear HF
  go_wp2_with (first
   | (go_at_call 94; (with_reducible refine (refisName_any r.name _).mono ?_); rintro e w1 ⟨rfl, rfl⟩; rw [H0.out])
   | (go_at_call 117; (with_reducible refine (rbetw_any _ _ _ _).mono ?_); rintro e w1 ⟨rfl, rfl⟩; simp only [H1.out, H2.out, H3.out, H4.out]))
  go_ret;exact ⟨ret_bool HR2.out.symm, HX.out _ hB1⟩
 have hlen := betB_iff.1 h4;have hln2 : 0 ≤ r.length ∧ r.length ≤ 1048576 := by omega
 have HLEN := lh hln2
 cases h5 : (r.length % 1000 == 0)
 ·have HR : Hid ((isNameB r.name && (betB r.depth 0 1048576 && (betB r.low 0 r.high && (betB r.high 0 1048576 && (betB r.length 1000 1048576 && ((r.length % 1000 == 0) && (betB r.lines.length 2 10 && (betB r.pipe 0 1048576 && (betB r.arbor 0 1048576 && (betB r.purchase 1 2 && (betB r.most 1 67108864 && (betB r.brake 0 67108864)))))))))))) = false) := lh (by simp only [h0, h1, h2, h3, h4, h5, Bool.true_and, Bool.false_and])
  have H0 := lh h0;have H1 := lh h1;have H2 := lh h2;have H3 := lh h3;have H4 := lh h4;clear h0 h1 h2 h3 h4;have h5n : (r.length % 1000 != 0) = true := by rw [bne, h5]; rfl
  have HR2 := lh (HF.out HR.out);clear HF
  go_wp2_with (first
   | (go_at_call 94; (with_reducible refine (refisName_any r.name _).mono ?_); rintro e w1 ⟨rfl, rfl⟩; rw [H0.out])
   | (go_at_call 117; (with_reducible refine (rbetw_any _ _ _ _).mono ?_); rintro e w1 ⟨rfl, rfl⟩; simp only [H1.out, H2.out, H3.out, H4.out]))
  go_ret;exact ⟨ret_bool HR2.out.symm, HX.out _ hB1⟩
 have h5n : (r.length % 1000 != 0) = false := by rw [bne, h5]; rfl
 cases h6 : betB r.lines.length 2 10
 ·have HR : Hid ((isNameB r.name && (betB r.depth 0 1048576 && (betB r.low 0 r.high && (betB r.high 0 1048576 && (betB r.length 1000 1048576 && ((r.length % 1000 == 0) && (betB r.lines.length 2 10 && (betB r.pipe 0 1048576 && (betB r.arbor 0 1048576 && (betB r.purchase 1 2 && (betB r.most 1 67108864 && (betB r.brake 0 67108864)))))))))))) = false) := lh (by simp only [h0, h1, h2, h3, h4, h5, h6, Bool.true_and, Bool.false_and])
  have H0 := lh h0;have H1 := lh h1;have H2 := lh h2;have H3 := lh h3;have H4 := lh h4;have H6 := lh h6;clear h0 h1 h2 h3 h4 h6;have HR2 := lh (HF.out HR.out);clear HF
  go_wp2_with (first
   | (go_at_call 94; (with_reducible refine (refisName_any r.name _).mono ?_); rintro e w1 ⟨rfl, rfl⟩; rw [H0.out])
   | (go_at_call 117; (with_reducible refine (rbetw_any _ _ _ _).mono ?_); rintro e w1 ⟨rfl, rfl⟩; simp only [H1.out, H2.out, H3.out, H4.out, H6.out]))
  go_ret;exact ⟨ret_bool HR2.out.symm, HX.out _ hB1⟩
 cases h7 : betB r.pipe 0 1048576
 ·have HR : Hid ((isNameB r.name && (betB r.depth 0 1048576 && (betB r.low 0 r.high && (betB r.high 0 1048576 && (betB r.length 1000 1048576 && ((r.length % 1000 == 0) && (betB r.lines.length 2 10 && (betB r.pipe 0 1048576 && (betB r.arbor 0 1048576 && (betB r.purchase 1 2 && (betB r.most 1 67108864 && (betB r.brake 0 67108864)))))))))))) = false) := lh (by simp only [h0, h1, h2, h3, h4, h5, h6, h7, Bool.true_and, Bool.false_and])
  have H0 := lh h0;have H1 := lh h1;have H2 := lh h2;have H3 := lh h3;have H4 := lh h4;have H6 := lh h6;have H7 := lh h7;clear h0 h1 h2 h3 h4 h6 h7;have HR2 := lh (HF.out HR.out);clear HF
  go_wp2_with (first
   | (go_at_call 94; (with_reducible refine (refisName_any r.name _).mono ?_); rintro e w1 ⟨rfl, rfl⟩; rw [H0.out])
   | (go_at_call 117; (with_reducible refine (rbetw_any _ _ _ _).mono ?_); rintro e w1 ⟨rfl, rfl⟩; simp only [H1.out, H2.out, H3.out, H4.out, H6.out, H7.out]))
  go_ret;exact ⟨ret_bool HR2.out.symm, HX.out _ hB1⟩
 cases h8 : betB r.arbor 0 1048576
 ·have HR : Hid ((isNameB r.name && (betB r.depth 0 1048576 && (betB r.low 0 r.high && (betB r.high 0 1048576 && (betB r.length 1000 1048576 && ((r.length % 1000 == 0) && (betB r.lines.length 2 10 && (betB r.pipe 0 1048576 && (betB r.arbor 0 1048576 && (betB r.purchase 1 2 && (betB r.most 1 67108864 && (betB r.brake 0 67108864)))))))))))) = false) := lh (by simp only [h0, h1, h2, h3, h4, h5, h6, h7, h8, Bool.true_and, Bool.false_and])
  have H0 := lh h0;have H1 := lh h1;have H2 := lh h2;have H3 := lh h3;have H4 := lh h4;have H6 := lh h6;have H7 := lh h7;have H8 := lh h8;clear h0 h1 h2 h3 h4 h6 h7 h8;have HR2 := lh (HF.out HR.out);clear HF
  go_wp2_with (first
   | (go_at_call 94; (with_reducible refine (refisName_any r.name _).mono ?_); rintro e w1 ⟨rfl, rfl⟩; rw [H0.out])
   | (go_at_call 117; (with_reducible refine (rbetw_any _ _ _ _).mono ?_); rintro e w1 ⟨rfl, rfl⟩; simp only [H1.out, H2.out, H3.out, H4.out, H6.out, H7.out, H8.out]))
  go_ret;exact ⟨ret_bool HR2.out.symm, HX.out _ hB1⟩
 cases h9 : betB r.purchase 1 2
 ·have HR : Hid ((isNameB r.name && (betB r.depth 0 1048576 && (betB r.low 0 r.high && (betB r.high 0 1048576 && (betB r.length 1000 1048576 && ((r.length % 1000 == 0) && (betB r.lines.length 2 10 && (betB r.pipe 0 1048576 && (betB r.arbor 0 1048576 && (betB r.purchase 1 2 && (betB r.most 1 67108864 && (betB r.brake 0 67108864)))))))))))) = false) := lh (by simp only [h0, h1, h2, h3, h4, h5, h6, h7, h8, h9, Bool.true_and, Bool.false_and])
  have H0 := lh h0;have H1 := lh h1;have H2 := lh h2;have H3 := lh h3;have H4 := lh h4;have H6 := lh h6;have H7 := lh h7;have H8 := lh h8;have H9 := lh h9;clear h0 h1 h2 h3 h4 h6 h7 h8 h9;have HR2 := lh (HF.out HR.out);clear HF
  go_wp2_with (first
   | (go_at_call 94; (with_reducible refine (refisName_any r.name _).mono ?_); rintro e w1 ⟨rfl, rfl⟩; rw [H0.out])
   | (go_at_call 117; (with_reducible refine (rbetw_any _ _ _ _).mono ?_); rintro e w1 ⟨rfl, rfl⟩; simp only [H1.out, H2.out, H3.out, H4.out, H6.out, H7.out, H8.out, H9.out]))
  go_ret;exact ⟨ret_bool HR2.out.symm, HX.out _ hB1⟩
 cases h10 : betB r.most 1 67108864
 ·have HR : Hid ((isNameB r.name && (betB r.depth 0 1048576 && (betB r.low 0 r.high && (betB r.high 0 1048576 && (betB r.length 1000 1048576 && ((r.length % 1000 == 0) && (betB r.lines.length 2 10 && (betB r.pipe 0 1048576 && (betB r.arbor 0 1048576 && (betB r.purchase 1 2 && (betB r.most 1 67108864 && (betB r.brake 0 67108864)))))))))))) = false) := lh (by simp only [h0, h1, h2, h3, h4, h5, h6, h7, h8, h9, h10, Bool.true_and, Bool.false_and])
  have H0 := lh h0;have H1 := lh h1;have H2 := lh h2;have H3 := lh h3;have H4 := lh h4;have H6 := lh h6;have H7 := lh h7;have H8 := lh h8;have H9 := lh h9;have H10 := lh h10;clear h0 h1 h2 h3 h4 h6 h7 h8 h9 h10;have HR2 := lh (HF.out HR.out);clear HF
  go_wp2_with (first
   | (go_at_call 94; (with_reducible refine (refisName_any r.name _).mono ?_); rintro e w1 ⟨rfl, rfl⟩; rw [H0.out])
   | (go_at_call 117; (with_reducible refine (rbetw_any _ _ _ _).mono ?_); rintro e w1 ⟨rfl, rfl⟩; simp only [H1.out, H2.out, H3.out, H4.out, H6.out, H7.out, H8.out, H9.out, H10.out]))
  go_ret;exact ⟨ret_bool HR2.out.symm, HX.out _ hB1⟩
 cases h11 : betB r.brake 0 67108864
 ·have HR : Hid ((isNameB r.name && (betB r.depth 0 1048576 && (betB r.low 0 r.high && (betB r.high 0 1048576 && (betB r.length 1000 1048576 && ((r.length % 1000 == 0) && (betB r.lines.length 2 10 && (betB r.pipe 0 1048576 && (betB r.arbor 0 1048576 && (betB r.purchase 1 2 && (betB r.most 1 67108864 && (betB r.brake 0 67108864)))))))))))) = false) := lh (by simp only [h0, h1, h2, h3, h4, h5, h6, h7, h8, h9, h10, h11, Bool.true_and])
  have H0 := lh h0;have H1 := lh h1;have H2 := lh h2;have H3 := lh h3;have H4 := lh h4;have H6 := lh h6;have H7 := lh h7;have H8 := lh h8;have H9 := lh h9;have H10 := lh h10;have H11 := lh h11;clear h0 h1 h2 h3 h4 h6 h7 h8 h9 h10 h11;have HR2 := lh (HF.out HR.out);clear HF
  go_wp2_with (first
   | (go_at_call 94; (with_reducible refine (refisName_any r.name _).mono ?_); rintro e w1 ⟨rfl, rfl⟩; rw [H0.out])
   | (go_at_call 117; (with_reducible refine (rbetw_any _ _ _ _).mono ?_); rintro e w1 ⟨rfl, rfl⟩; simp only [H1.out, H2.out, H3.out, H4.out, H6.out, H7.out, H8.out, H9.out, H10.out, H11.out]))
  go_ret;exact ⟨ret_bool HR2.out.symm, HX.out _ hB1⟩
 have HR : Hid ((isNameB r.name && (betB r.depth 0 1048576 && (betB r.low 0 r.high && (betB r.high 0 1048576 && (betB r.length 1000 1048576 && ((r.length % 1000 == 0) && (betB r.lines.length 2 10 && (betB r.pipe 0 1048576 && (betB r.arbor 0 1048576 && (betB r.purchase 1 2 && (betB r.most 1 67108864 && (betB r.brake 0 67108864)))))))))))) = true) := lh (by simp only [h0, h1, h2, h3, h4, h5, h6, h7, h8, h9, h10, h11, Bool.and_self]);have H0 := lh h0;have H1 := lh h1;have H2 := lh h2;have H3 := lh h3;have H4 := lh h4;have H6 := lh h6;have H7 := lh h7;have H8 := lh h8;have H9 := lh h9;have H10 := lh h10;have H11 := lh h11;clear h0 h1 h2 h3 h4 h6 h7 h8 h9 h10 h11;have HL3 := lh (HL3.out HR.out);clear HF;have hl2 := betB_iff.1 H6.out
 go_wp2_with (first
  | (go_at_call 94; (with_reducible refine (refisName_any r.name _).mono ?_); rintro e w1 ⟨rfl, rfl⟩; rw [H0.out])
  | (go_at_call 117; (with_reducible refine (rbetw_any r.depth 0 1048576 _).mono ?_); rintro e w1 ⟨rfl, rfl⟩; rw [H1.out])
  | (go_at_call 117; (with_reducible refine (rbetw_any r.low 0 r.high _).mono ?_); rintro e w1 ⟨rfl, rfl⟩; rw [H2.out])
  | (go_at_call 117; (with_reducible refine (rbetw_any r.high 0 1048576 _).mono ?_); rintro e w1 ⟨rfl, rfl⟩; rw [H3.out])
  | (go_at_call 117; (with_reducible refine (rbetw_any r.length 1000 1048576 _).mono ?_); rintro e w1 ⟨rfl, rfl⟩; rw [H4.out])
  | (go_at_call 117; (with_reducible refine (rbetw_any (r.lines.length : Int) 2 10 _).mono ?_); rintro e w1 ⟨rfl, rfl⟩; rw [H6.out])
  | (go_at_call 117; (with_reducible refine (rbetw_any r.pipe 0 1048576 _).mono ?_); rintro e w1 ⟨rfl, rfl⟩; rw [H7.out])
  | (go_at_call 117; (with_reducible refine (rbetw_any r.arbor 0 1048576 _).mono ?_); rintro e w1 ⟨rfl, rfl⟩; rw [H8.out])
  | (go_at_call 117; (with_reducible refine (rbetw_any r.purchase 1 2 _).mono ?_); rintro e w1 ⟨rfl, rfl⟩; rw [H9.out])
  | (go_at_call 117; (with_reducible refine (rbetw_any r.most 1 67108864 _).mono ?_); rintro e w1 ⟨rfl, rfl⟩; rw [H10.out])
  | (go_at_call 117; (with_reducible refine (rbetw_any r.brake 0 67108864 _).mono ?_); rintro e w1 ⟨rfl, rfl⟩; rw [H11.out]))
 clear h5 h5n
 go_loopw [3] (fun v wr => ∃ k : Nat, k ≤ r.lines.length ∧ v = .int .i64 k ∧ Hid (∀ j, j < k → betB (ig r.lines j) 0 r.length = true ∧ (0 < j → ig r.lines (j - 1) < ig r.lines j)) ∧ Below W0.heap.size W0 wr) (fun v _ => r.lines.length - (intOf v).toNat)
 case atStart => exact ⟨0, Nat.zero_le _, rfl, lh (fun j hj => by omega), hB1⟩
 case round =>
  obtain ⟨k, hk, rfl, HO, hB⟩ := hrel
  by_cases hlt : k < r.lines.length
  ·obtain ⟨b, off, hla, hb, hc⟩ := (HS.out wr hB).lines (by omega)
   have y5 : wr.cell? ⟨w.heap.size, 5, none⟩ = some (.slice (some ⟨b, off, none⟩) r.lines.length r.lc) := by rw [← hla]; exact x5 wr hB
   have y4 := x4 wr hB;have c0 := hc k hlt;have HC := lh hc;clear hla x5 x4 hc;have HNO : Hid (¬ (betB (ig r.lines k) 0 r.length = true ∧ (0 < k → ig r.lines (k - 1) < ig r.lines k)) → RR = false) := lh fun h => HL2.out fun q => h (q k hlt)
   have HYE : Hid (betB (ig r.lines k) 0 r.length = true → (0 < k → ig r.lines (k - 1) < ig r.lines k) → ∀ j, j < k + 1 → betB (ig r.lines j) 0 r.length = true ∧ (0 < j → ig r.lines (j - 1) < ig r.lines j)) := lh fun h1 h2 j hj => by
    rcases (show j < k ∨ j = k by omega) with l | l
    ·exact HO.out j l
    ·subst l; exact ⟨h1, h2⟩
   have k1 : (k : Int) < r.lines.length := by omega
   obtain ⟨x, hx⟩ := nm (ig r.lines k);rw [hx] at c0 HNO HYE;clear hx
   cases hbx : betB x 0 r.length
   ·have HBX := lh hbx
    have HR2 := lh (HNO.out fun h => by rw [hbx] at h; cases h.1);clear hbx HNO HYE
    go_wp2_with (go_quiet ((go_at_call 117; exact Calls.quiet_of_same (v := .bool false) ((rbetw_any x 0 r.length _).mono fun e w' h => ⟨h.1.trans (by rw [HBX.out]), h.2.symm⟩))))
    go_ret;exact ⟨ret_bool HR2.out.symm, HX.out _ (below_drewN hB _)⟩
   ·have HBX := lh hbx
    have HYE2 := lh (HYE.out hbx);clear hbx;rcases Nat.eq_zero_or_pos k with h0 | h0
    ·have HYE3 := lh (HYE2.out (fun h => absurd h (by omega)))
     have g4 : decide (0 < (k : Int)) = false := dF (by omega);have g5 : decide (0 < k) = false := dF (by omega);clear HNO HYE HYE2 h0
     go_wp2_with (go_quiet ((go_at_call 117; exact Calls.quiet_of_same (v := .bool true) ((rbetw_any x 0 r.length _).mono fun e w' h => ⟨h.1.trans (by rw [HBX.out]), h.2.symm⟩))))
     go_roundw
     case rel => exact ⟨k + 1, by omega, by go_num, HYE3, below_drewN hB _⟩
     case measure => simp [intOf]; omega
    ·obtain ⟨q, hq⟩ := nm (k - 1)
     have c1 := HC.out q (by omega);rw [hq] at HNO HYE2;have z5 : (k : Int) - 1 = (q : Int) := by omega
     have z6 : (q : Int) < r.lines.length := by omega
     have z7 : q < r.lines.length := by omega
     have z8 : IntKind.i64.wrap ((k : Int) - 1) = (q : Int) := by rw [z5]; exact IntWalk.i64_in _ (by omega)
     have g4 : decide (0 < (k : Int)) = true := dT (by omega);have g5 : decide (0 < k) = true := decide_eq_true h0;generalize ig r.lines q = y at *;clear hq
     by_cases hxy : y < x
     ·have g6 : decide (x ≤ y) = false := dF (by omega)
      have HYE3 := lh (HYE2.out fun _ => hxy);clear HNO HYE HYE2 hxy
      go_wp2_with (go_quiet ((go_at_call 117; exact Calls.quiet_of_same (v := .bool true) ((rbetw_any x 0 r.length _).mono fun e w' h => ⟨h.1.trans (by rw [HBX.out]), h.2.symm⟩))))
      go_roundw
      case rel => exact ⟨k + 1, by omega, by go_num, HYE3, below_drewN hB _⟩
      case measure => simp [intOf]; omega
     ·have g6 : decide (x ≤ y) = true := dT (by omega)
      have HR2 := lh (HNO.out fun h => hxy (h.2 h0));clear HNO HYE HYE2 hxy
      go_wp2_with (go_quiet ((go_at_call 117; exact Calls.quiet_of_same (v := .bool true) ((rbetw_any x 0 r.length _).mono fun e w' h => ⟨h.1.trans (by rw [HBX.out]), h.2.symm⟩))))
      go_ret;exact ⟨ret_bool HR2.out.symm, HX.out _ (below_drewN hB _)⟩
  ·obtain rfl : k = r.lines.length := by omega
   have HR3 := lh (HL3.out HO.out)
   cases hi : itemsB r.items r.length
   ·have HI2 := lh hi
    have HR2 : Hid (RR = false) := lh (by rw [HR3.out, hi]; rfl);clear hi HR3
    go_wp2_with (go_at_call 118; (with_reducible refine (ritems_any r _ HLEN.out (HS.out _ hB)).mono ?_); rintro e w4 ⟨rfl, hb⟩; rw [HI2.out]; have hB4 := hB.trans (hb.mono hB.size); clear hb)
    go_ret;exact ⟨ret_bool HR2.out.symm, HX.out _ hB4⟩
   ·have HI2 := lh hi
    have HR2 : Hid (RR = brickB r.bricks) := lh (by rw [HR3.out, hi]; rfl);clear hi HR3
    go_wp2_with (first
     | (go_at_call 118; (with_reducible refine (ritems_any r _ HLEN.out (HS.out _ hB)).mono ?_); rintro e w4 ⟨rfl, hb⟩; rw [HI2.out]; have hB4 := hB.trans (hb.mono hB.size); clear hb)
     | (go_at_call 119; (with_reducible refine (refbricks_any _ r.bricks _ _ (HS.out _ hB4).bricks).mono ?_); rintro e w5 ⟨rfl, hb⟩; have hB5 := hB4.trans (hb.mono hB4.size); clear hb))
    go_ret;exact ⟨ret_bool HR2.out.symm, HX.out _ hB5⟩
end
section
section
variable {P : Program} {ops : Array Oper} {Q : Exit → Act → World → Prop} {md : Region.Mode} {S : World → Prop}
theorem tk (i : Nat) {oi : Oper} {v : Value} {fuel : Nat} {listed : Array Bool} {a a' : Act} {w : World} (h : wpAnyH P md ops Q S fuel (listed.setIfInBounds i true) a' w)
  (hi : ops[i]? = some oi := by first | (simp only [List.getElem?_toArray, List.getElem?_cons_zero]; rfl) | (simp only [List.getElem?_toArray, List.getElem?_cons_succ, List.getElem?_cons_zero]; rfl))
  (hs : Region.noSelect ops = true := by kernel_rfl) (hf : Region.free md ops listed i = true := by kernel_rfl) (hr : (Region.ready md ops listed).contains i = true := by kernel_rfl)
  (hQ : ∀ c a w, Q (.panic c) (a.put oi.dst v) w → Q (.panic c) a w := by exact fun _ _ _ h => h)
  (hy : YieldsIf P ops S oi v a := by refine Or.inl ⟨by rfl, ?_⟩; (intro w hSw; (try dsimp only at hSw); go_split_ands; (try simp only [List.getElem_toArray, List.getElem_cons_succ, List.getElem_cons_zero]); go_simp; try with_reducible rfl))
  (ha : a.put oi.dst v = a' := by simp only [Act.put, List.setIfInBounds_toArray, List.set_cons_zero, List.set_cons_succ, List.getElem_toArray, List.getElem_cons_succ, List.getElem_cons_zero]; rfl)
  (hS : S w := by assumption) : wpAnyH P md ops Q S (fuel + 1) listed a w := wpAnyH_take hi hs hf hr hQ hy hS (ha ▸ h)
theorem sk (i : Nat) {oi : Oper} {fuel : Nat} {listed : Array Bool} {a a' : Act} {w : World} (h : wpAnyH P md ops Q S fuel (listed.setIfInBounds i true) a' w)
  (hi : ops[i]? = some oi := by first | (simp only [List.getElem?_toArray, List.getElem?_cons_zero]; rfl) | (simp only [List.getElem?_toArray, List.getElem?_cons_succ, List.getElem?_cons_zero]; rfl))
  (hs : Region.noSelect ops = true := by kernel_rfl) (hf : Region.free md ops listed i = true := by kernel_rfl) (hr : (Region.ready md ops listed).contains i = true := by kernel_rfl)
  (hQ : ∀ c a w, Q (.panic c) (a.put oi.dst undef) w → Q (.panic c) a w := by exact fun _ _ _ h => h)
  (hy : YieldsIf P ops S oi undef a := by exact Or.inr ⟨by rfl, rfl⟩)
  (ha : a.put oi.dst undef = a' := by simp only [Act.put, List.setIfInBounds_toArray, List.set_cons_zero, List.set_cons_succ, List.getElem_toArray, List.getElem_cons_succ, List.getElem_cons_zero]; rfl)
  (hS : S w := by assumption) : wpAnyH P md ops Q S (fuel + 1) listed a w := wpAnyH_take hi hs hf hr hQ hy hS (ha ▸ h)
end
end
end Go.Proofs.YtbgkgahmicepdaaGreat
