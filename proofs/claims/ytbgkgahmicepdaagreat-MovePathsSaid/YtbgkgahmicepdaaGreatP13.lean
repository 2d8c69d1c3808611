/-
  THE WALKS of bits.Div64 and ratio.over in general.
-/
import Derived.Test.YtbgkgahmicepdaaGreatP12
namespace Go.Proofs.YtbgkgahmicepdaaGreat
set_option maxRecDepth 100000
set_option maxHeartbeats 80000000
section
open Go.RowKit Go.Shelf
theorem div64_all (hi lo v : Int) (hi0 : 0 ≤ hi) (hv : hi < v) (v1 : v < 18446744073709551616) (l0 : 0 ≤ lo) (l1 : lo < 18446744073709551616) (w : World) :
  Calls Tryz.prog 112 #[.int .u64 hi, .int .u64 lo, .int .u64 v] w fun e w' => e = .returned (.tuple #[.int .u64 ((hi * 18446744073709551616 + lo) / v), .int .u64 ((hi * 18446744073709551616 + lo) % v)]) ∧ ∃ m, w' = w.drewN m := by
 by_cases z : hi = 0
 ·subst z
  have := div64_small lo v l0 l1 hv v1 w;rw [show (0 : Int) * 18446744073709551616 + lo = lo by omega];exact this
 ·exact (div64_any hi lo v (by omega) hv v1 l0 l1 w).mono fun e w' h => ⟨h.1, 0, h.2.symm⟩
theorem over_words {a ah al b : Int} (e : ah * 18446744073709551616 + al = a) (hb : 0 < b) (l0 : 0 ≤ al) (l1 : al < 18446744073709551616) :
  ah / b = hiW (a / b) ∧ (ah % b * 18446744073709551616 + al) / b = loW (a / b) ∧ (ah % b * 18446744073709551616 + al) % b = a % b := by
 have r0 := Int.emod_nonneg ah (show b ≠ 0 by omega);have r1 := Int.emod_lt_of_pos ah hb;have e2 := Int.mul_ediv_add_emod ah b
 have e3 : a = (ah % b * 18446744073709551616 + al) + b * (ah / b * 18446744073709551616) := by
  rw [← e, ← Int.mul_assoc];generalize b * (ah / b) = X at *;omega
 have q0 : 0 ≤ (ah % b * 18446744073709551616 + al) / b := Int.ediv_nonneg (by omega) (by omega)
 have q1 : (ah % b * 18446744073709551616 + al) / b < 18446744073709551616 := by
  refine Int.ediv_lt_of_lt_mul hb ?_;have := Int.mul_le_mul_of_nonneg_left (show ah % b + 1 ≤ b by omega) (show (0 : Int) ≤ 18446744073709551616 by decide);omega
 have e4 : a / b = (ah % b * 18446744073709551616 + al) / b + ah / b * 18446744073709551616 := by
  conv => lhs; rw [e3]
  exact Int.add_mul_ediv_left _ _ (by omega)
 have e5 : a % b = (ah % b * 18446744073709551616 + al) % b := by
  conv => lhs; rw [e3]
  exact Int.add_mul_emod_self_left _ _ _
 refine ⟨?_, ?_, e5.symm⟩
 ·unfold hiW; rw [e4]; omega
 ·unfold loW; rw [e4]; omega
theorem over_wide (x y : Int) (hx : 0 ≤ x) (hx' : x < 340282366920938463463374607431768211456) (hy : 0 < y) (hy' : y < 18446744073709551616) (w : World) :
  Calls Tryz.prog 75 #[.agg #[.int .u64 (hiW x), .int .u64 (loW x)], .int .u64 y] w fun e w' => e = .returned (.tuple #[.agg #[.int .u64 (hiW (x / y)), .int .u64 (loW (x / y))], .int .u64 (x % y)]) ∧ Below w.heap.size w w' := by
 have h1 := hi_bd hx hx';have h2 := lo_bd x;obtain ⟨p1, p2, p3⟩ := over_words (hi_lo x) hy h2.1 h2.2;generalize hiW x = h at *;generalize loW x = l at *;generalize hiW (x / y) = qh at *;generalize loW (x / y) = ql at *;generalize x % y = rr at *;have y0 : ¬ y = 0 := by omega
 have y0' : (y == 0) = false := by simpa using y0
 have m0 := Int.emod_nonneg h y0;have m1 := Int.emod_lt_of_pos h hy;have m2 := Int.ediv_nonneg h1.1 (Int.le_of_lt hy);have m3 := Int.ediv_le_self y h1.1;have u1 : IntKind.u64.wrap (h.tmod y) = h % y := by rw [Int.tmod_eq_emod_of_nonneg h1.1, IntKind.wrap_u64]; omega
 have u2 : IntKind.u64.wrap (h.tdiv y) = qh := by rw [Int.tdiv_eq_ediv_of_nonneg h1.1, IntKind.wrap_u64, ← p1]; omega
 have HD := lh (div64_all (h % y) l y m0 m1 hy' h2.1 h2.2);rw [p2, p3] at HD;have u3 : h.tmod y = h % y := Int.tmod_eq_emod_of_nonneg h1.1;have u4 : h.tdiv y = qh := by rw [Int.tdiv_eq_ediv_of_nonneg h1.1]; exact p1
 have u5 : IntKind.u64.wrap qh = qh := by rw [IntKind.wrap_u64]; omega
 obtain ⟨r, hr⟩ := nm (h % y);rw [hr] at HD u1 u3 m0 m1;clear p2 p3 m2 m3
 go_enter Tryz.func75, Tryz.ntmps75
 go_wp2_with fail
 go_quiet ((go_at_call 112; with_reducible refine Calls.quiet_of (v := .tuple #[.int .u64 ql, .int .u64 rr]) (HD.out _)))
 go_wp2_with fail
 refine bodyPost_ret (v := .tuple #[.agg #[.int .u64 qh, .int .u64 ql], .int .u64 rr]) (by simp [results, Tryz.results75, go_sem]) rfl ⟨rfl, ?_⟩;exact ((below_drewN ((below_new _ _).alloc (by simp) _) _).setCell (p := ⟨w.heap.size + 1, 0, none⟩) (by simp) _).setCell (p := ⟨w.heap.size + 1, 1, none⟩) (by simp) _
theorem product_wide (x y : Int) (hx : 0 ≤ x) (hx' : x < 18446744073709551616) (hy : 0 ≤ y) (hy' : y < 18446744073709551616) (w : World) :
  Calls Tryz.prog 70 #[.int .u64 x, .int .u64 y] w fun e w' => e = .returned (.agg #[.int .u64 (hiW (x * y)), .int .u64 (loW (x * y))]) ∧ Below w.heap.size w w' := product_any x y hx hx' hy hy' w
theorem eql_V (h l : Int) (w : World) : (binOp .eql 104 (.agg #[.int .u64 h, .int .u64 l]) (.agg #[.int .u64 0, .int .u64 0])).run Tryz.prog w = .ok (.bool ((h == 0) && (l == 0))) w := by
 simp [go_sem]
 by_cases a : h = 0
 ·by_cases b : l = 0
  ·simp [a, b]
  ·simp [a, b]
 ·simp [a]
theorem eqV_yes {x : Int} (h : x = 0) (w : World) : (binOp .eql 104 (.agg #[.int .u64 (hiW x), .int .u64 (loW x)]) (.agg #[.int .u64 0, .int .u64 0])).run Tryz.prog w = .ok (.bool true) w := by subst h; exact eql_V _ _ _
theorem eqV_no {x : Int} (h : ¬ x = 0) (w : World) : (binOp .eql 104 (.agg #[.int .u64 (hiW x), .int .u64 (loW x)]) (.agg #[.int .u64 0, .int .u64 0])).run Tryz.prog w = .ok (.bool false) w := by
 rw [eql_V];have := hi_lo x
 have e : ((hiW x == 0) && (loW x == 0)) = false := by
  rw [Bool.and_eq_false_iff, beq_eq_false_iff_ne, beq_eq_false_iff_ne];omega
 rw [e]
end
end Go.Proofs.YtbgkgahmicepdaaGreat
