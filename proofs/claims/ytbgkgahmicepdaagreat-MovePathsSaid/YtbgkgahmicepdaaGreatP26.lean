/-
  THE WALKS of the laws' own helpers: example, awake (the chapter's example holds), ready.
-/
import Derived.Test.YtbgkgahmicepdaaGreatP24
namespace Go.Proofs.YtbgkgahmicepdaaGreat
set_option maxRecDepth 100000
set_option maxHeartbeats 80000000
section
open Go.RowKit Go.Shelf
theorem of_any (n : Int) (w : World) : Calls Tryz.prog 40 #[.int .i64 n] w fun e w' => e = .returned (.agg #[.int .i64 n, .int .i64 1]) ∧ Below w.heap.size w w' := by
 go_enter Tryz.func40, Tryz.ntmps40
 go_wp2_with fail
 refine bodyPost_ret (v := .agg #[.int .i64 n, .int .i64 1]) (by simp [results, Tryz.results40, go_sem]) rfl ⟨rfl, ?_⟩;exact below_new _ _
theorem top_some (d : Int) (m : Mv) : ∃ t, givenP d m = 0 → IsTop d m.spd m.rise m.fall t := by
 by_cases hg : givenP d m = 0
 ·obtain ⟨hv, hd⟩ := given_ok hg
  obtain ⟨V0, V1, R0, R1, F0, F1⟩ := valid_bds hv;obtain ⟨t, ht⟩ := top_exI (d := d) (V := m.spd) (R := m.rise) (F := m.fall) (by omega) (by omega) (inB_iff.1 hd).1 (by omega);exact ⟨t, fun _ => ht⟩
 ·exact ⟨0, fun h => absurd h hg⟩
end
section
theorem top_some35 (h : HouseR) (f : Int) (m : Mv) : ∃ t, mgE h f m = 0 → IsTop (mgD f m) m.spd m.rise m.fall t := by
 obtain ⟨t, ht⟩ := top_some (mgD f m) m;refine ⟨t, fun e => ht ?_⟩;obtain ⟨_, _, _, _, _, _, gd, _⟩ := mg_ok e;exact gd
end
section
open Go.RowKit Go.Shelf
attribute [local go_sem] Oper.semAt_some
open Classical in
noncomputable def rchB (h : HouseR) (m : Mv) : Bool := if setE h m = 0 then reachB (setO h m) m.to else false
theorem mreach_any (h : HouseR) (m : Mv) (w : World) (hh : HouseIn w h) :
  Calls Tryz.prog 15 #[.agg #[.string h.name, .int .i64 h.height, .slice h.sa h.sets.length h.sc, .slice h.ra h.roofs.length h.rc], .agg #[.string m.name, .int .i64 m.to, .int .i64 m.spd, .int .i64 m.rise, .int .i64 m.fall]] w fun e w' => e = .returned (.tuple #[.bool (rchB h m), .int .i64 (setE h m)]) ∧ Below w.heap.size w w' := by
 obtain ⟨x, hx⟩ := nm (setO h m);obtain ⟨e, he⟩ := nm (setE h m)
 have HMS : Hid (∀ w' : World, Below w.heap.size w w' → Calls Tryz.prog 48 #[.agg #[.string h.name, .int .i64 h.height, .slice h.sa h.sets.length h.sc, .slice h.ra h.roofs.length h.rc], .agg #[.string m.name, .int .i64 m.to, .int .i64 m.spd, .int .i64 m.rise, .int .i64 m.fall]] w' fun z w2 => z = .returned (.tuple #[.agg #[.string x.name, .int .i64 x.depth, .int .i64 x.low, .int .i64 x.high, .int .i64 x.length, .slice x.la x.lines.length x.lc, .int .i64 x.pipe, .int .i64 x.arbor, .int .i64 x.purchase, .int .i64 x.most, .int .i64 x.brake, .slice x.ia x.items.length x.ic, .slice x.ba x.bricks.length x.bc], .int .i64 e]) ∧ Below w'.heap.size w' w2) := lh fun w' hb => by
  have := mset_any h m w' (hh.grow hb);rw [hx, he] at this;exact this
 clear hh;have HMG : Hid (rchB h m = if e = 0 then reachB x m.to else false) := lh (by unfold rchB; rw [he, hx]);rw [he]
 by_cases z : e = 0
 ·subst z
  rw [show rchB h m = reachB x m.to by rw [HMG.out, if_pos rfl]];obtain ⟨r, hr⟩ := nm (reachB x m.to);have HR := lh hr;rw [hr];clear hr hx he HMG
  go_enter Tryz.func15, Tryz.ntmps15
  go_upto_region 1 with (fail)
  have hat1 := (HouseAt.new w h 25).carry (below_new (w.alloc (LHo h)) (.cells #[.string m.name, .int .i64 m.to, .int .i64 m.spd, .int .i64 m.rise, .int .i64 m.fall] 27));have mat1 := MvAt.new (w.alloc (LHo h)) m 27;have hW0 := (below_new w (LHo h)).alloc (by simp) (.cells #[.string m.name, .int .i64 m.to, .int .i64 m.spd, .int .i64 m.rise, .int .i64 m.fall] 27);have hm1 : (w.alloc (LHo h)).heap.size = w.heap.size + 1 := by simp
  rw [hm1] at mat1;generalize ((w.alloc (LHo h)).alloc (.cells #[.string m.name, .int .i64 m.to, .int .i64 m.spd, .int .i64 m.rise, .int .i64 m.fall] 27)) = W0 at *;have HAT := lh hat1;have MAT := lh mat1;clear hat1 mat1 hm1;obtain ⟨k0, k1, k2, k3⟩ := HAT.out;obtain ⟨m0, m1, m2, m3, m4⟩ := MAT.out
  go_upto_region 2 with (go_at_call 48; (with_reducible refine (HMS.out _ hW0).mono ?_); rintro e w1 ⟨rfl, hb1⟩)
  have hbn := below_new w1 (LSe x);have hx := SetAt.new w1 x 54;have hb2 := hb1.trans (hbn.mono hb1.size);obtain ⟨n0, n1, n2, n3, n4⟩ := MAT.out.carry hb2;clear k0 k1 k2 k3 m0 m1 m2 m3 m4 hbn hb1;obtain ⟨B, hBe⟩ := nm (w1.heap.size);simp only [hBe] at hx ⊢;generalize w1.alloc (LSe x) = W2 at *;obtain ⟨d0, d1, d2, d3, d4, d5, d6, d7, d8, d9, d10, d11, d12⟩ := hx
  go_wp2_with (go_at_call 49; (with_reducible refine (reaches_any x m.to _).mono ?_); rintro e w3 ⟨rfl, hb3⟩; rw [HR.out]; clear d0 d1 d2 d3 d4 d5 d6 d7 d8 d9 d10 d11 d12 n0 n1 n2 n3 n4)
  go_ret2
  exact ⟨rfl, hW0.trans ((hb2.trans (hb3.mono hb2.size)).mono hW0.size)⟩
 ·have z1 : (e == 0) = false := by simpa using z
  rw [show rchB h m = false by rw [HMG.out, if_neg z]];clear z hx he HMG
  go_enter Tryz.func15, Tryz.ntmps15
  go_upto_region 1 with (fail)
  have hat1 := (HouseAt.new w h 25).carry (below_new (w.alloc (LHo h)) (.cells #[.string m.name, .int .i64 m.to, .int .i64 m.spd, .int .i64 m.rise, .int .i64 m.fall] 27));have mat1 := MvAt.new (w.alloc (LHo h)) m 27;have hW0 := (below_new w (LHo h)).alloc (by simp) (.cells #[.string m.name, .int .i64 m.to, .int .i64 m.spd, .int .i64 m.rise, .int .i64 m.fall] 27);have hm1 : (w.alloc (LHo h)).heap.size = w.heap.size + 1 := by simp
  rw [hm1] at mat1;generalize ((w.alloc (LHo h)).alloc (.cells #[.string m.name, .int .i64 m.to, .int .i64 m.spd, .int .i64 m.rise, .int .i64 m.fall] 27)) = W0 at *;have HAT := lh hat1;have MAT := lh mat1;clear hat1 mat1 hm1;obtain ⟨k0, k1, k2, k3⟩ := HAT.out;obtain ⟨m0, m1, m2, m3, m4⟩ := MAT.out
  go_upto_region 2 with (go_at_call 48; (with_reducible refine (HMS.out _ hW0).mono ?_); rintro e w1 ⟨rfl, hb1⟩)
  have hbn := below_new w1 (LSe x);have hb2 := hb1.trans (hbn.mono hb1.size)
  go_wp2_with fail
  go_ret2
  exact ⟨rfl, hW0.trans (hb2.mono hW0.size)⟩
end
section
open Go.RowKit Go.Shelf
theorem half_words {a h l : Int} (e : h * 18446744073709551616 + l = a) (h1 : 0 ≤ l ∧ l < 18446744073709551616) :
  h / 2 = hiW (a / 2) ∧ h * 9223372036854775808 % 18446744073709551616 = h % 2 * 9223372036854775808 ∧ (l / 2 + h % 2 * 9223372036854775808) % 18446744073709551616 = loW (a / 2) := by
 unfold hiW loW;omega
theorem half_wide (a : Int) (a0 : 0 ≤ a) (a1 : a < 340282366920938463463374607431768211456) (w : World) :
  Calls Tryz.prog 76 #[.agg #[.int .u64 (hiW a), .int .u64 (loW a)]] w fun e w' => e = .returned (.agg #[.int .u64 (hiW (a / 2)), .int .u64 (loW (a / 2))]) ∧ Below w.heap.size w w' := by
 have h1 := lo_bd a;have h2 := hi_bd a0 a1;obtain ⟨p1, p2, p3⟩ := half_words (hi_lo a) h1;generalize hiW a = h at *;generalize loW a = l at *;generalize hiW (a / 2) = sh at *;generalize loW (a / 2) = sl at *;have u1 : IntKind.u64.wrap (h * 9223372036854775808) = h % 2 * 9223372036854775808 := by rw [IntKind.wrap_u64]; exact p2
 have u2 : IntKind.u64.wrap (l / 2 + h % 2 * 9223372036854775808) = sl := by rw [IntKind.wrap_u64]; exact p3
 clear p2 p3
 go_enter Tryz.func76, Tryz.ntmps76
 go_wp2_with fail
 refine bodyPost_ret (v := .agg #[.int .u64 sh, .int .u64 sl]) (by simp [results, Tryz.results76, go_sem]) rfl ⟨rfl, ?_⟩;exact (below_new _ _).alloc (by simp) _
theorem rminus_words {a b ah al bh bl : Int} (e1 : ah * 18446744073709551616 + al = a) (e2 : bh * 18446744073709551616 + bl = b) (h1 : 0 ≤ al ∧ al < 18446744073709551616) (h2 : 0 ≤ bl ∧ bl < 18446744073709551616) (h3 : 0 ≤ bh) (h4 : ah < 18446744073709551616) (h : b ≤ a) :
  (al - bl) % 18446744073709551616 = loW (a - b) ∧ (al < bl → ((ah - bh) - 1) % 18446744073709551616 = hiW (a - b) ∧ 0 ≤ ah - bh - 1) ∧ (¬ al < bl → (ah - bh) % 18446744073709551616 = hiW (a - b)) := by
 unfold hiW loW;refine ⟨by omega, fun q => ⟨by omega, by omega⟩, fun q => by omega⟩
theorem rminus_wide (a b : Int) (ha : a < 340282366920938463463374607431768211456) (hb : 0 ≤ b) (h : b ≤ a) (w : World) :
  Calls Tryz.prog 78 #[.agg #[.int .u64 (hiW a), .int .u64 (loW a)], .agg #[.int .u64 (hiW b), .int .u64 (loW b)]] w fun e w' => e = .returned (.agg #[.int .u64 (hiW (a - b)), .int .u64 (loW (a - b))]) ∧ Below w.heap.size w w' := by
 have a1 := lo_bd a;have b1 := lo_bd b;have a2 := hi_bd (show 0 ≤ a by omega) ha;have b2 := hi_bd hb (by omega);obtain ⟨p1, p2, p3⟩ := rminus_words (hi_lo a) (hi_lo b) a1 b1 b2.1 a2.2 h;generalize hiW a = ah at *;generalize loW a = al at *;generalize hiW b = bh at *;generalize loW b = bl at *;generalize hiW (a - b) = sh at *;generalize loW (a - b) = sl at *;have u1 : IntKind.u64.wrap (al - bl) = sl := by rw [IntKind.wrap_u64]; exact p1
 by_cases c : al < bl
 ·have g : decide (al < bl) = true := decide_eq_true c
  obtain ⟨p2, p4⟩ := p2 c;have u2 : IntKind.u64.wrap (ah - bh) = ah - bh := by rw [IntKind.wrap_u64]; omega
  have u3 : IntKind.u64.wrap (ah - bh - 1) = sh := by rw [IntKind.wrap_u64]; exact p2
  clear p1 p2 p3 p4 c
  go_enter Tryz.func78, Tryz.ntmps78
  go_wp2_with fail
  refine bodyPost_ret (v := .agg #[.int .u64 sh, .int .u64 sl]) (by simp [results, Tryz.results78, go_sem]) rfl ⟨rfl, ?_⟩;exact ((below_new _ _).alloc (by simp) _).alloc (by simp; omega) _
 ·have g : decide (al < bl) = false := decide_eq_false c
  have p3 := p3 c;have u2 : IntKind.u64.wrap (ah - bh) = sh := by rw [IntKind.wrap_u64]; exact p3
  clear p1 p2 p3 c
  go_enter Tryz.func78, Tryz.ntmps78
  go_wp2_with fail
  refine bodyPost_ret (v := .agg #[.int .u64 sh, .int .u64 sl]) (by simp [results, Tryz.results78, go_sem]) rfl ⟨rfl, ?_⟩;exact ((below_new _ _).alloc (by simp) _).alloc (by simp; omega) _
theorem rplus_words {a b ah al bh bl : Int} (e1 : ah * 18446744073709551616 + al = a) (e2 : bh * 18446744073709551616 + bl = b) (h1 : 0 ≤ al ∧ al < 18446744073709551616) (h2 : 0 ≤ bl ∧ bl < 18446744073709551616) (h3 : 0 ≤ ah) (h4 : 0 ≤ bh) (h : a + b < 340282366920938463463374607431768211456) :
  (al + bl) % 18446744073709551616 = loW (a + b) ∧ (loW (a + b) < al → (ah + bh + 1) % 18446744073709551616 = hiW (a + b) ∧ ah + bh + 1 < 18446744073709551616) ∧ (¬ loW (a + b) < al → (ah + bh) % 18446744073709551616 = hiW (a + b)) := by
 unfold hiW loW;refine ⟨by omega, fun q => ⟨by omega, by omega⟩, fun q => by omega⟩
theorem rplus_wide (a b : Int) (ha : 0 ≤ a) (hb : 0 ≤ b) (h : a + b < 340282366920938463463374607431768211456) (w : World) :
  Calls Tryz.prog 79 #[.agg #[.int .u64 (hiW a), .int .u64 (loW a)], .agg #[.int .u64 (hiW b), .int .u64 (loW b)]] w fun e w' => e = .returned (.agg #[.int .u64 (hiW (a + b)), .int .u64 (loW (a + b))]) ∧ Below w.heap.size w w' := by
 have a1 := lo_bd a;have b1 := lo_bd b;have a2 := hi_bd ha (by omega);have b2 := hi_bd hb (by omega);obtain ⟨p1, p2, p3⟩ := rplus_words (hi_lo a) (hi_lo b) a1 b1 a2.1 b2.1 h;generalize hiW a = ah at *;generalize loW a = al at *;generalize hiW b = bh at *;generalize loW b = bl at *;generalize hiW (a + b) = sh at *;generalize loW (a + b) = sl at *;have u1 : IntKind.u64.wrap (al + bl) = sl := by rw [IntKind.wrap_u64]; exact p1
 by_cases c : sl < al
 ·have g : decide (sl < al) = true := decide_eq_true c
  obtain ⟨p2, p4⟩ := p2 c;have u2 : IntKind.u64.wrap (ah + bh) = ah + bh := by rw [IntKind.wrap_u64]; omega
  have u3 : IntKind.u64.wrap (ah + bh + 1) = sh := by rw [IntKind.wrap_u64]; exact p2
  clear p1 p2 p3 p4 c
  go_enter Tryz.func79, Tryz.ntmps79
  go_wp2_with fail
  refine bodyPost_ret (v := .agg #[.int .u64 sh, .int .u64 sl]) (by simp [results, Tryz.results79, go_sem]) rfl ⟨rfl, ?_⟩;exact ((below_new _ _).alloc (by simp) _).alloc (by simp; omega) _
 ·have g : decide (sl < al) = false := decide_eq_false c
  have p3 := p3 c;have u2 : IntKind.u64.wrap (ah + bh) = sh := by rw [IntKind.wrap_u64]; exact p3
  clear p1 p2 p3 c
  go_enter Tryz.func79, Tryz.ntmps79
  go_wp2_with fail
  refine bodyPost_ret (v := .agg #[.int .u64 sh, .int .u64 sl]) (by simp [results, Tryz.results79, go_sem]) rfl ⟨rfl, ?_⟩;exact ((below_new _ _).alloc (by simp) _).alloc (by simp; omega) _
theorem rless_wide (a b : Int) (w : World) :
  Calls Tryz.prog 77 #[.agg #[.int .u64 (hiW a), .int .u64 (loW a)], .agg #[.int .u64 (hiW b), .int .u64 (loW b)]] w fun e w' => e = .returned (.bool (decide (a < b))) ∧ Below w.heap.size w w' := by
 have HR := lh (less_words (hi_lo a) (hi_lo b) (lo_bd a) (lo_bd b));generalize hiW a = ah at *;generalize loW a = al at *;generalize hiW b = bh at *;generalize loW b = bl at *
 by_cases q1 : ah < bh
 ·have g1 : decide (ah < bh) = true := decide_eq_true q1
  rw [g1] at HR;clear q1
  go_enter Tryz.func77, Tryz.ntmps77
  go_wp2_with fail
  go_ret;exact ⟨by rw [HR.out]; rfl, (below_new _ _).alloc (by simp) _⟩
 have g1 : decide (ah < bh) = false := decide_eq_false q1;rw [g1] at HR;clear q1
 by_cases q2 : ah = bh
 ·have g2 : (ah == bh) = true := beq_iff_eq.2 q2
  rw [g2] at HR;clear q2
  go_enter Tryz.func77, Tryz.ntmps77
  go_wp2_with fail
  go_ret;exact ⟨by rw [HR.out]; rfl, (below_new _ _).alloc (by simp) _⟩
 ·have g2 : (ah == bh) = false := beq_eq_false_iff_ne.2 q2
  rw [g2] at HR;clear q2
  go_enter Tryz.func77, Tryz.ntmps77
  go_wp2_with fail
  go_ret;exact ⟨by rw [HR.out]; rfl, (below_new _ _).alloc (by simp) _⟩
theorem hiW_zero {a : Int} (h0 : 0 ≤ a) (h : a < 18446744073709551616) : hiW a = 0 := by unfold hiW; omega
theorem loW_small {a : Int} (h0 : 0 ≤ a) (h : a < 18446744073709551616) : loW a = a := by unfold loW; omega
theorem gcd_half2 {x y : Int} (hx : x % 2 = 0) (hy : y % 2 = 0) : Int.gcd x y = 2 * Int.gcd (x / 2) (y / 2) := by
 have h := Int.gcd_mul_left 2 (x / 2) (y / 2);rw [show 2 * (x / 2) = x by omega, show 2 * (y / 2) = y by omega] at h;exact h
theorem gcd_half1 {x y : Int} (hx : x % 2 = 0) (hy : y % 2 = 1) : Int.gcd (x / 2) y = Int.gcd x y := by
 have c : Int.gcd 2 y = 1 := by
  rw [show y = 1 + (y / 2) * 2 by omega, Int.gcd_add_mul_right_right]
  rfl
 have h := Int.gcd_mul_right_left_of_gcd_eq_one (n := 2) (k := x / 2) c;rw [show 2 * (x / 2) = x by omega] at h;exact h.symm
theorem gcd_odd {x y : Int} (h : Int.gcd x y % 2 = 1) (hx : x % 2 = 0) : y % 2 = 1 := by
 rcases (show y % 2 = 0 ∨ y % 2 = 1 by omega) with c | c
 ·have := gcd_half2 hx c; omega
 ·exact c
theorem gcd_halfL {x y : Int} (h : Int.gcd x y % 2 = 1) (hx : x % 2 = 0) : Int.gcd (x / 2) y = Int.gcd x y := gcd_half1 hx (gcd_odd h hx)
theorem gcd_halfR {x y : Int} (h : Int.gcd x y % 2 = 1) (hy : y % 2 = 0) : Int.gcd x (y / 2) = Int.gcd x y := by
 rw [Int.gcd_comm x, Int.gcd_comm x];exact gcd_halfL (by rw [Int.gcd_comm]; exact h) hy
theorem gcd_sub {x y : Int} : Int.gcd (x - y) y = Int.gcd x y := by
 rw [Int.gcd_sub_self_left]
theorem odd_one {x y : Int} (hx : x % 2 = 1 ∨ y % 2 = 1) : Int.gcd x y % 2 = 1 := by
 rcases (show Int.gcd x y % 2 = 0 ∨ Int.gcd x y % 2 = 1 by omega) with c | c
 ·have h2 : (2 : Nat) ∣ Int.gcd x y := Nat.dvd_of_mod_eq_zero c
  have d1 : (2 : Int) ∣ x := Int.dvd_trans (Int.natCast_dvd_natCast.2 h2) (Int.gcd_dvd_left x y);have d2 : (2 : Int) ∣ y := Int.dvd_trans (Int.natCast_dvd_natCast.2 h2) (Int.gcd_dvd_right x y);omega
 ·exact c
theorem and_oneW (x : Int) (_ : 0 ≤ x) (_ : x < 340282366920938463463374607431768211456) : bits .and .u64 (loW x) 1 = x % 2 := by
 obtain ⟨l0, l1⟩ := lo_bd x;obtain ⟨n, hn⟩ := Int.eq_ofNat_of_zero_le l0;have h := bits_and_u64_nat n 1 (by omega) (by omega);have e : n &&& 1 = n % 2 := Nat.and_two_pow_sub_one_eq_mod n 1;rw [e] at h;have h2 : loW x % 2 = x % 2 := by unfold loW; omega
 rw [← h2, hn];exact h.trans (by omega)
theorem eql_U (h l : Int) (w : World) : (binOp .eql 69 (.agg #[.int .u64 h, .int .u64 l]) (.agg #[.int .u64 0, .int .u64 0])).run Tryz.prog w = .ok (.bool ((h == 0) && (l == 0))) w := by
 simp [go_sem]
 by_cases a : h = 0
 ·by_cases b : l = 0
  ·simp [a, b]
  ·simp [a, b]
 ·simp [a]
theorem eqU_yes {x : Int} (h : x = 0) (w : World) : (binOp .eql 69 (.agg #[.int .u64 (hiW x), .int .u64 (loW x)]) (.agg #[.int .u64 0, .int .u64 0])).run Tryz.prog w = .ok (.bool true) w := by subst h; exact eql_U _ _ _
theorem eqU_no {x : Int} (h : ¬ x = 0) (w : World) : (binOp .eql 69 (.agg #[.int .u64 (hiW x), .int .u64 (loW x)]) (.agg #[.int .u64 0, .int .u64 0])).run Tryz.prog w = .ok (.bool false) w := by
 rw [eql_U];have := hi_lo x
 have e : ((hiW x == 0) && (loW x == 0)) = false := by
  rw [Bool.and_eq_false_iff, beq_eq_false_iff_ne, beq_eq_false_iff_ne];omega
 rw [e]
theorem neq_U (h l : Int) (w : World) : (binOp .neq 69 (.agg #[.int .u64 h, .int .u64 l]) (.agg #[.int .u64 0, .int .u64 0])).run Tryz.prog w = .ok (.bool (!((h == 0) && (l == 0)))) w := by
 simp [go_sem]
 by_cases a : h = 0
 ·by_cases b : l = 0
  ·simp [a, b]
  ·simp [a, b]
 ·simp [a]
theorem neU_yes {x : Int} (h : x = 0) (w : World) : (binOp .neq 69 (.agg #[.int .u64 (hiW x), .int .u64 (loW x)]) (.agg #[.int .u64 0, .int .u64 0])).run Tryz.prog w = .ok (.bool false) w := by subst h; exact neq_U _ _ _
theorem neU_no {x : Int} (h : ¬ x = 0) (w : World) : (binOp .neq 69 (.agg #[.int .u64 (hiW x), .int .u64 (loW x)]) (.agg #[.int .u64 0, .int .u64 0])).run Tryz.prog w = .ok (.bool true) w := by
 rw [neq_U];have := hi_lo x
 have e : ((hiW x == 0) && (loW x == 0)) = false := by
  rw [Bool.and_eq_false_iff, beq_eq_false_iff_ne, beq_eq_false_iff_ne];omega
 rw [e]
 rfl
def WU (w : World) (n : Nat) (x y : Int) : Prop := w.cell? ⟨n, 0, none⟩ = some (.int .u64 (hiW x)) ∧ w.cell? ⟨n, 1, none⟩ = some (.int .u64 (loW x)) ∧ w.cell? ⟨n + 1, 0, none⟩ = some (.int .u64 (hiW y)) ∧ w.cell? ⟨n + 1, 1, none⟩ = some (.int .u64 (loW y)) ∧ w.cell? ⟨n + 1 + 1, 0, none⟩ = some (.int .u64 0) ∧ w.cell? ⟨n + 1 + 1, 1, none⟩ = some (.int .u64 0) ∧ w.frozen? ⟨n, 0, none⟩ = false ∧ w.frozen? ⟨n, 1, none⟩ = false ∧ w.frozen? ⟨n + 1, 0, none⟩ = false ∧ w.frozen? ⟨n + 1, 1, none⟩ = false ∧ w.frozen? ⟨n + 1 + 1, 0, none⟩ = false ∧ w.frozen? ⟨n + 1 + 1, 1, none⟩ = false ∧ n + 1 + 1 < w.heap.size
theorem WU.carry {W w : World} {n : Nat} {x y : Int} (f : WU W n x y) (h : Below W.heap.size W w) : WU w n x y := by
 obtain ⟨a0, a1, a2, a3, a4, a5, b0, b1, b2, b3, b4, b5, c⟩ := f;have e0 : n < W.heap.size := by omega
 have e1 : n + 1 < W.heap.size := by omega
 exact ⟨(h.cell (p := ⟨n, 0, none⟩) e0).trans a0, (h.cell (p := ⟨n, 1, none⟩) e0).trans a1, (h.cell (p := ⟨n + 1, 0, none⟩) e1).trans a2, (h.cell (p := ⟨n + 1, 1, none⟩) e1).trans a3, (h.cell (p := ⟨n + 1 + 1, 0, none⟩) c).trans a4, (h.cell (p := ⟨n + 1 + 1, 1, none⟩) c).trans a5, (h.frozen (p := ⟨n, 0, none⟩) e0).trans b0, (h.frozen (p := ⟨n, 1, none⟩) e0).trans b1, (h.frozen (p := ⟨n + 1, 0, none⟩) e1).trans b2, (h.frozen (p := ⟨n + 1, 1, none⟩) e1).trans b3, (h.frozen (p := ⟨n + 1 + 1, 0, none⟩) c).trans b4, (h.frozen (p := ⟨n + 1 + 1, 1, none⟩) c).trans b5, Nat.lt_of_lt_of_le c h.size⟩
theorem WU.setA {w : World} {n : Nat} {x y : Int} (f : WU w n x y) (z : Int) : WU ((w.setCell ⟨n, 0, none⟩ (.int .u64 (hiW z))).setCell ⟨n, 1, none⟩ (.int .u64 (loW z))) n z y := by
 obtain ⟨a0, a1, a2, a3, a4, a5, b0, b1, b2, b3, b4, b5, c⟩ := f;obtain ⟨d0, d1⟩ := two_cells (v0 := .int .u64 (hiW z)) (v1 := .int .u64 (loW z)) a0 a1;exact ⟨d0, d1, (two_other (by omega) _ _ _).trans a2, (two_other (by omega) _ _ _).trans a3, (two_other (by omega) _ _ _).trans a4, (two_other (by omega) _ _ _).trans a5, by simpa using b0, by simpa using b1, by simpa using b2, by simpa using b3, by simpa using b4, by simpa using b5, by simpa using c⟩
theorem WU.setB {w : World} {n : Nat} {x y : Int} (f : WU w n x y) (z : Int) : WU ((w.setCell ⟨n + 1, 0, none⟩ (.int .u64 (hiW z))).setCell ⟨n + 1, 1, none⟩ (.int .u64 (loW z))) n x z := by
 obtain ⟨a0, a1, a2, a3, a4, a5, b0, b1, b2, b3, b4, b5, c⟩ := f;obtain ⟨d0, d1⟩ := two_cells (v0 := .int .u64 (hiW z)) (v1 := .int .u64 (loW z)) a2 a3;exact ⟨(two_other (by omega) _ _ _).trans a0, (two_other (by omega) _ _ _).trans a1, d0, d1, (two_other (by omega) _ _ _).trans a4, (two_other (by omega) _ _ _).trans a5, by simpa using b0, by simpa using b1, by simpa using b2, by simpa using b3, by simpa using b4, by simpa using b5, by simpa using c⟩
def wA (n : Nat) (w : World) : Nat := (intOf ((w.cell? ⟨n, 0, none⟩).getD (.int .i64 0)) * 18446744073709551616 + intOf ((w.cell? ⟨n, 1, none⟩).getD (.int .i64 0))).toNat
theorem wA_of {w : World} {n : Nat} {x y : Int} (h : WU w n x y) : wA n w = x.toNat := by unfold wA; rw [h.1, h.2.1]; exact congrArg Int.toNat (hi_lo x)
theorem wB_of {w : World} {n : Nat} {x y : Int} (h : WU w n x y) : wA (n + 1) w = y.toNat := by unfold wA; rw [h.2.2.1, h.2.2.2.1]; exact congrArg Int.toNat (hi_lo y)
def wAB (n : Nat) (w : World) : Nat := wA n w + wA (n + 1) w
theorem wAB_of {w : World} {n : Nat} {x y : Int} (h : WU w n x y) : wAB n w = x.toNat + y.toNat := by unfold wAB; rw [wA_of h, wB_of h]
def G2w (g : Nat) (x y : Int) : Prop := Int.gcd x y = g ∧ g % 2 = 1
def G5w (k : Nat) (g : Nat) (j : Nat) (z : Int) : Prop := (2 : Int) ^ j * z = 2 ^ k * (g : Int)

theorem rgcd_wide (a b : Int) (a0 : 0 ≤ a) (a1 : a < 340282366920938463463374607431768211456) (b0 : 0 < b) (b1 : b < 340282366920938463463374607431768211456) (w : World) :
  Calls Tryz.prog 33 #[.agg #[.int .u64 (hiW a), .int .u64 (loW a)], .agg #[.int .u64 (hiW b), .int .u64 (loW b)]] w fun e w' => e = .returned (.agg #[.int .u64 (hiW (Int.gcd a b : Int)), .int .u64 (loW (Int.gcd a b : Int))]) ∧ Below w.heap.size w w' := by
 by_cases ha : a = 0
 ·have ha' := fun w => eqU_yes ha w
  have HR : Hid ((Int.gcd a b : Int) = b) := lh (by rw [ha]; simp; omega);rw [HR.out];clear ha
  go_enter Tryz.func33, Tryz.ntmps33
  go_wp2_with fail
  refine bodyPost_ret (v := .agg #[.int .u64 (hiW b), .int .u64 (loW b)]) (by simp [results, Tryz.results33, go_sem]) rfl ⟨rfl, ?_⟩;exact ((below_new _ _).alloc (by simp) _).alloc (by simp <;> omega) _
 ·have ha' := fun w => eqU_no ha w
  have ap : 0 < a := by omega
  clear ha;have HGB : Hid ((Int.gcd a b : Int) ≤ b) := lh (Int.le_of_dvd b0 (Int.gcd_dvd_right a b));obtain ⟨GG, hGG⟩ := nm ((Int.gcd a b : Int) : Int);rw [hGG];rw [hGG] at HGB;have HGG := lh hGG;clear hGG
  go_enter Tryz.func33, Tryz.ntmps33
  go_wp2_with fail
  go_loopw [5] (fun t wr => ∃ (k : Nat) (x y : Int), t = .int .i64 k ∧ k ≤ 128 ∧ 0 < x ∧ x < 340282366920938463463374607431768211456 ∧ 0 < y ∧ y < 340282366920938463463374607431768211456 ∧ Hid (Int.gcd a b = 2 ^ k * Int.gcd x y ∧ 2 ^ k * x ≤ a) ∧ WU wr w.heap.size x y ∧ Below w.heap.size w wr) (fun _ wr => wA w.heap.size wr)
  case atStart =>
   refine ⟨0, a, b, rfl, by omega, ap, a1, b0, b1, lh ⟨by simp, by simp⟩, ?_, ?_⟩
   ·refine ⟨?_, ?_, ?_, ?_, ?_, ?_, ?_, ?_, ?_, ?_, ?_, ?_, ?_⟩
    all_goals first | (simp [go_sem, World.cell?_alloc_past]; done) | (simp; done) | (simp <;> omega)
   ·exact ((below_new _ _).alloc (by simp) _).alloc (by simp <;> omega) _
  case round =>
   obtain ⟨k, x, y, rfl, hk, x0, x1, y0, y1, HG, hU, hB⟩ := hrel;have HU := lh hU;obtain ⟨u0, u1, u2, u3, u4, u5, f0, f1, f2, f3, f4, f5, uz⟩ := hU;have hx1 := and_oneW x (by omega) x1;have hy1 := and_oneW y (by omega) y1
   by_cases cb : x % 2 = 0 ∧ y % 2 = 0
   ·have cx' : (x % 2 == 0) = true := by simpa using cb.1
    have cy' : (y % 2 == 0) = true := by simpa using cb.2
    have kl : k < 128 := by
     rcases Nat.lt_or_ge k 128 with l | l
     ·exact l
     ·obtain rfl : k = 128 := by omega
      have := HG.out.2;omega
    have HN : Hid (Int.gcd a b = 2 ^ (k + 1) * Int.gcd (x / 2) (y / 2) ∧ 2 ^ (k + 1) * (x / 2) ≤ a) := lh ⟨by
      rw [HG.out.1, gcd_half2 cb.1 cb.2, Nat.pow_succ, Nat.mul_assoc], by
      have h := HG.out.2;have e : (2 : Int) ^ (k + 1) * (x / 2) = 2 ^ k * x := by rw [Int.pow_succ, Int.mul_assoc, show 2 * (x / 2) = x by omega]
      rw [e]; exact h⟩
    have s1 : IntKind.i64.wrap ((k : Int) + 1) = (k : Int) + 1 := IntWalk.i64_in _ (by omega);have hbr := Below.refl wr.heap.size wr;have x2 : 0 < x / 2 := by omega
    have y2 : 0 < y / 2 := by omega
    clear cb
    go_wp2_with fail
    go_region_with (first
     | (go_at_call 76; (with_reducible refine (half_wide x (by omega) x1 _).mono ?_); rintro e w1 ⟨rfl, hb1⟩; have hx : Below wr.heap.size wr w1 := hbr.drew.trans hb1; obtain ⟨u0, u1, u2, u3, u4, u5, f0, f1, f2, f3, f4, f5, uz⟩ := WU.carry HU.out hx)
     | (go_at_call 76; (with_reducible refine (half_wide y (by omega) y1 _).mono ?_); rintro e w2 ⟨rfl, hb2⟩; have hy := held_next (wr := wr) hx hb2; obtain ⟨u0, u1, u2, u3, u4, u5, f0, f1, f2, f3, f4, f5, uz⟩ := WU.carry HU.out hy))
    all_goals simp only [Act.put, List.setIfInBounds_toArray, List.set_cons_zero, List.set_cons_succ, List.getElem_toArray, List.getElem_cons_succ, List.getElem_cons_zero]
    all_goals go_wp2_with fail
    all_goals go_roundw
    all_goals have U2 := WU.carry HU.out hy
    all_goals have B2 : Below w.heap.size w w2 := hB.trans (hy.mono hB.size)
    all_goals first
     | exact ⟨k + 1, x / 2, y / 2, by go_num, by omega, x2, by omega, y2, by omega, HN, by first | exact (U2.setA _).setB _ | exact (U2.setB _).setA _, by repeat' (first | exact B2 | refine Below.setCell ?_ (by simp) _)⟩
     | ((first | rw [wA_of ((U2.setA (x / 2)).setB (y / 2)), wA_of HU.out] | rw [wA_of ((U2.setB (y / 2)).setA (x / 2)), wA_of HU.out]); omega)
   ·have HO : Hid (Int.gcd x y % 2 = 1) := lh (odd_one (by omega))
    by_cases cx : x % 2 = 0
    all_goals
     first
      | (have cx' : (x % 2 == 0) = true := by simpa using cx
         have cy' : (y % 2 == 0) = false := by simp; omega
         clear cb cx
         go_wp2_with fail)
      | (have cx' : (x % 2 == 0) = false := by simpa using cx
         clear cb cx
         go_wp2_with fail)
     obtain ⟨g, hg⟩ := nm (Int.gcd x y : Nat);have HP : Hid (GG = 2 ^ k * (g : Int)) := lh (by have := HG.out.1; rw [hg] at this; rw [← HGG.out, this]; simp);have HG2 : Hid (G2w g x y) := lh ⟨hg, by rw [← hg]; exact HO.out⟩;clear HO HG hg u0 u1 u2 u3 u4 u5 f0 f1 f2 f3 f4 f5 uz hx1 hy1;obtain ⟨wp, rfl⟩ : ∃ W : World, W = wr := ⟨_, rfl⟩
     go_loopw [] (fun wr => ∃ (x y : Int), 0 ≤ x ∧ x < 340282366920938463463374607431768211456 ∧ 0 < y ∧ y < 340282366920938463463374607431768211456 ∧ Hid (G2w g x y) ∧ WU wr w.heap.size x y ∧ Below w.heap.size w wr) (fun wr => wAB w.heap.size wr)
     case atStart => exact ⟨x, y, by omega, x1, y0, y1, HG2, HU.out, hB⟩
     case round =>
      obtain ⟨x, y, x0, x1, y0, y1, HG, hU, hB⟩ := hrel;have HU := lh hU;obtain ⟨u0, u1, u2, u3, u4, u5, f0, f1, f2, f3, f4, f5, uz⟩ := hU
      by_cases cz : x = 0
      ·have cz' := fun w => neU_yes cz w
       have HZ : Hid (G5w k g k y) := lh (by
        have h := HG.out.1;rw [cz] at h;unfold G5w;rw [← h]
        congr 1
        simp
        omega)
       have HU2 : Hid (WU wr w.heap.size 0 y) := lh (by have := HU.out; rwa [cz] at this);clear cz HG HU HG2
       go_wp2_with fail
       clear u0 u1 u2 u3 u4 u5 f0 f1 f2 f3 f4 f5 uz cz';obtain ⟨wo, rfl⟩ : ∃ W : World, W = wr := ⟨_, rfl⟩
       go_loopw [5] (fun t wr => ∃ (j : Nat) (z : Int), t = .int .i64 j ∧ j ≤ 128 ∧ 0 < z ∧ z < 340282366920938463463374607431768211456 ∧ Hid (G5w k g j z) ∧ WU wr w.heap.size 0 z ∧ Below w.heap.size w wr) (fun t _ => (intOf t).toNat)
       case atStart => exact ⟨k, y, rfl, hk, y0, y1, HZ, HU2.out, hB⟩
       case round =>
        obtain ⟨j, z, rfl, hj, z0, z1, HG, hU, hB⟩ := hrel;have HU := lh hU;obtain ⟨u0, u1, u2, u3, u4, u5, f0, f1, f2, f3, f4, f5, uz⟩ := hU;rcases (show j = 0 ∨ ∃ i, j = i + 1 by cases j with | zero => exact .inl rfl | succ i => exact .inr ⟨i, rfl⟩) with rfl | ⟨i, rfl⟩
        ·obtain rfl : z = GG := by
          have h := HG.out;unfold G5w at h;rw [Int.pow_zero, Int.one_mul, ← HP.out] at h;exact h
         go_wp2_with fail
         have l0 := (two_cells (v0 := .int .u64 (hiW z)) (v1 := .int .u64 (loW z)) u4 u5).1;have l1 := (two_cells (v0 := .int .u64 (hiW z)) (v1 := .int .u64 (loW z)) u4 u5).2;refine bodyPost_ret (v := .agg #[.int .u64 (hiW z), .int .u64 (loW z)]) (by simp [results, Tryz.results33, go_sem, l0, l1]) rfl ⟨rfl, ?_⟩;exact below_s _ _ (below_s _ _ hB (by simp <;> omega)) (by simp <;> omega)
        ·have hz : z + z < 340282366920938463463374607431768211456 := by
          have h := HG.out;unfold G5w at h;rw [← HP.out, Int.pow_succ, Int.mul_assoc] at h
          have p1 : (1 : Int) ≤ 2 ^ i := by
           have := Nat.one_le_two_pow (n := i);have e : ((2 ^ i : Nat) : Int) = (2 : Int) ^ i := by simp
           omega
          have := Int.mul_le_mul_of_nonneg_right p1 (show 0 ≤ 2 * z by omega);have := HGB.out;omega
         have HN : Hid (G5w k g i (z + z)) := lh (by
          have h := HG.out;unfold G5w at *;rw [Int.pow_succ, Int.mul_assoc, Int.two_mul] at h;exact h)
         have hi0 : (0 : Int) ≤ i := by omega
         clear HG
         go_wp2_with (go_at_call 79; (with_reducible refine (rplus_wide z z (by omega) (by omega) hz _).mono ?_); rintro e w1 ⟨rfl, hb1⟩; have U1 := WU.carry HU.out hb1; obtain ⟨u0, u1, u2, u3, u4, u5, f0, f1, f2, f3, f4, f5, uz⟩ := U1)
         go_roundw
         case rel => exact ⟨i, z + z, by go_num, by omega, by omega, hz, HN, (WU.carry HU.out hb1).setB _, below_s _ _ (below_s _ _ (hB.trans (hb1.mono hB.size)) (Nat.le_succ _)) (Nat.le_succ _)⟩
         case measure => simp [intOf]
      ·have cz' := fun w => neU_no cz w
       have xp : 0 < x := by omega
       clear cz HG2;have HUX := HU
       go_wp2_with fail
       clear u0 u1 u2 u3 u4 u5 f0 f1 f2 f3 f4 f5 uz cz' HU;obtain ⟨wo, rfl⟩ : ∃ W : World, W = wr := ⟨_, rfl⟩
       go_loopw [] (fun wr => ∃ x' : Int, 0 < x' ∧ x' ≤ x ∧ Hid (G2w g x' y) ∧ WU wr w.heap.size x' y ∧ Below w.heap.size w wr) (fun wr => wA w.heap.size wr)
       case atStart => exact ⟨x, xp, Int.le_refl _, HG, HUX.out, hB⟩
       case round =>
        clear HG hB;obtain ⟨x', xp', xl, HG, hU, hB⟩ := hrel;have HU := lh hU;obtain ⟨u0, u1, u2, u3, u4, u5, f0, f1, f2, f3, f4, f5, uz⟩ := hU;have hx1 := and_oneW x' (by omega) (by omega)
        by_cases ex : x' % 2 = 0
        ·have ex' : (x' % 2 == 0) = true := by simpa using ex
         have HN : Hid (G2w g (x' / 2) y) := lh ⟨by rw [gcd_halfL (by rw [HG.out.1]; exact HG.out.2) ex]; exact HG.out.1, HG.out.2⟩;have x2 : 0 < x' / 2 := by omega
         clear ex HG
         go_wp2_with (go_at_call 76; (with_reducible refine (half_wide x' (by omega) (by omega) _).mono ?_); rintro e w1 ⟨rfl, hb1⟩; have U1 := WU.carry HU.out hb1; obtain ⟨u0, u1, u2, u3, u4, u5, f0, f1, f2, f3, f4, f5, uz⟩ := U1)
         go_roundw
         case rel => exact ⟨x' / 2, x2, by omega, HN, (WU.carry HU.out hb1).setA _, below_s _ _ (below_s _ _ (hB.trans (hb1.mono hB.size)) (Nat.le_refl _)) (Nat.le_refl _)⟩
         case measure => rw [wA_of ((WU.carry HU.out hb1).setA (x' / 2)), wA_of HU.out]; omega
        ·have ex' : (x' % 2 == 0) = false := by simpa using ex
         clear ex
         go_wp2_with fail
         clear u0 u1 u2 u3 u4 u5 f0 f1 f2 f3 f4 f5 uz ex' hx1;obtain ⟨wq, rfl⟩ : ∃ W : World, W = wr := ⟨_, rfl⟩
         go_loopw [] (fun wr => ∃ y' : Int, 0 < y' ∧ y' ≤ y ∧ Hid (G2w g x' y') ∧ WU wr w.heap.size x' y' ∧ Below w.heap.size w wr) (fun wr => wA (w.heap.size + 1) wr)
         case atStart => exact ⟨y, y0, Int.le_refl _, HG, HU.out, hB⟩
         case round =>
          clear HG hB HU;obtain ⟨y', yp', yl, HG, hU, hB⟩ := hrel;have HU := lh hU;obtain ⟨u0, u1, u2, u3, u4, u5, f0, f1, f2, f3, f4, f5, uz⟩ := hU;have hy1 := and_oneW y' (by omega) (by omega)
          by_cases ey : y' % 2 = 0
          ·have ey' : (y' % 2 == 0) = true := by simpa using ey
           have HN : Hid (G2w g x' (y' / 2)) := lh ⟨by rw [gcd_halfR (by rw [HG.out.1]; exact HG.out.2) ey]; exact HG.out.1, HG.out.2⟩;have y2 : 0 < y' / 2 := by omega
           clear ey HG
           go_wp2_with (go_at_call 76; (with_reducible refine (half_wide y' (by omega) (by omega) _).mono ?_); rintro e w1 ⟨rfl, hb1⟩; have U1 := WU.carry HU.out hb1; obtain ⟨u0, u1, u2, u3, u4, u5, f0, f1, f2, f3, f4, f5, uz⟩ := U1)
           go_roundw
           case rel => exact ⟨y' / 2, y2, by omega, HN, (WU.carry HU.out hb1).setB _, below_s _ _ (below_s _ _ (hB.trans (hb1.mono hB.size)) (Nat.le_succ _)) (Nat.le_succ _)⟩
           case measure => rw [wB_of ((WU.carry HU.out hb1).setB (y' / 2)), wB_of HU.out]; omega
          ·have ey' : (y' % 2 == 0) = false := by simpa using ey
           clear ey;have HUq := HU
           by_cases lt : x' < y'
           ·have lt' : decide (x' < y') = true := decide_eq_true lt
            have HN : Hid (G2w g (y' - x') x') := lh ⟨by rw [gcd_sub, Int.gcd_comm]; exact HG.out.1, HG.out.2⟩
            go_upto_region 13 with (go_at_call 77; (with_reducible refine (rless_wide x' y' _).mono ?_); rw [lt']; rintro e w1 ⟨rfl, hb1⟩; have U1 := WU.carry HU.out hb1; obtain ⟨u0, u1, u2, u3, u4, u5, f0, f1, f2, f3, f4, f5, uz⟩ := U1)
            have U3 := ((WU.carry HU.out hb1).setA y').setB x';have B3 : Below w.heap.size w ((((w1.setCell ⟨w.heap.size, 0, none⟩ (.int .u64 (hiW y'))).setCell ⟨w.heap.size, 1, none⟩ (.int .u64 (loW y'))).setCell ⟨w.heap.size + 1, 0, none⟩ (.int .u64 (hiW x'))).setCell ⟨w.heap.size + 1, 1, none⟩ (.int .u64 (loW x'))) := below_s _ _ (below_s _ _ (below_s _ _ (below_s _ _ (hB.trans (hb1.mono hB.size)) (Nat.le_refl _)) (Nat.le_refl _)) (Nat.le_succ _)) (Nat.le_succ _);clear u0 u1 u2 u3 u4 u5 f0 f1 f2 f3 f4 f5 uz lt' ey' hy1 hb1 HU HG;generalize ((((w1.setCell ⟨w.heap.size, 0, none⟩ (.int .u64 (hiW y'))).setCell ⟨w.heap.size, 1, none⟩ (.int .u64 (loW y'))).setCell ⟨w.heap.size + 1, 0, none⟩ (.int .u64 (hiW x'))).setCell ⟨w.heap.size + 1, 1, none⟩ (.int .u64 (loW x'))) = w3 at *;have HU3 := lh U3;obtain ⟨u0, u1, u2, u3, u4, u5, f0, f1, f2, f3, f4, f5, uz⟩ := U3
            go_wp2_with (go_at_call 78; (with_reducible refine (rminus_wide y' x' (by omega) (by omega) (by omega) _).mono ?_); rintro e w4 ⟨rfl, hb4⟩; have U4 := WU.carry HU3.out hb4; obtain ⟨u0, u1, u2, u3, u4, u5, f0, f1, f2, f3, f4, f5, uz⟩ := U4)
            go_roundw
            case rel => exact ⟨y' - x', x', by omega, by omega, by omega, by omega, HN, (WU.carry HU3.out hb4).setA _, below_s _ _ (below_s _ _ (B3.trans (hb4.mono B3.size)) (Nat.le_refl _)) (Nat.le_refl _)⟩
            case measure => rw [wAB_of ((WU.carry HU3.out hb4).setA (y' - x')), wAB_of HUX.out]; omega
           ·have lt' : decide (x' < y') = false := decide_eq_false lt
            have HN : Hid (G2w g (x' - y') y') := lh ⟨by rw [gcd_sub]; exact HG.out.1, HG.out.2⟩
            go_wp2_with (first | (go_at_call 77; (with_reducible refine (rless_wide x' y' _).mono ?_); rw [lt']; rintro e w1 ⟨rfl, hb1⟩; have U1 := WU.carry HU.out hb1; obtain ⟨u0, u1, u2, u3, u4, u5, f0, f1, f2, f3, f4, f5, uz⟩ := U1) | (go_at_call 78; (with_reducible refine (rminus_wide x' y' (by omega) (by omega) (by omega) _).mono ?_); rintro e w4 ⟨rfl, hb4⟩; have U4 := WU.carry (WU.carry HU.out hb1) hb4; obtain ⟨u0, u1, u2, u3, u4, u5, f0, f1, f2, f3, f4, f5, uz⟩ := U4))
            have hb5 : Below wr.heap.size wr w4 := held_next hb1 hb4;go_roundw
            case rel => exact ⟨x' - y', y', by omega, by omega, by omega, by omega, HN, (WU.carry HU.out hb5).setA _, below_s _ _ (below_s _ _ (hB.trans (hb5.mono hB.size)) (Nat.le_refl _)) (Nat.le_refl _)⟩
            case measure => rw [wAB_of ((WU.carry HU.out hb5).setA (x' - y')), wAB_of HUX.out]; omega
end
end Go.Proofs.YtbgkgahmicepdaaGreat
