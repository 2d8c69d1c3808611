/-
  THE WALKS of ratio.product, plus, minus, less, over, where the high words are 0.
-/
import Derived.Test.YtlgpolfbilkmbaaRat2
import Derived.Test.YtlgpolfbilkmbaaShelf
import Derived.Shelf.Spec.BitsCarry
namespace Go.Proofs.Ytlgpolfbilkmbaa
open Go.RowKit Go.Shelf

theorem add64s (x y : Int) (hx : 0 ≤ x) (hy : 0 ≤ y) (h : x + y < 18446744073709551616) (w : World) : (callFunc 83 #[.int .u64 x, .int .u64 y, .int .u64 0]).run Try.prog w =
    .ok (.value (.tuple #[.int .u64 (x + y), .int .u64 0])) w := by
  obtain ⟨x, rfl⟩ := Int.eq_ofNat_of_zero_le hx
  obtain ⟨y, rfl⟩ := Int.eq_ofNat_of_zero_le hy
  rw [run_callFunc_extern Try.func83 (by kernel_rfl) (by kernel_rfl) (by kernel_rfl) (e := add64Entry) (by kernel_rfl), run_add64 x y 0 (by omega) (by omega) (by omega) (by omega)]
  have e1 : ((x : Int) + y + 0) % 18446744073709551616 = x + y := by omega
  have e2 : ((x : Int) + y + 0) / 18446744073709551616 = 0 := by omega
  rw [e1, e2]
  rfl
theorem sub64s (x y : Int) (hx : x < 18446744073709551616) (hy : 0 ≤ y) (h : y ≤ x) (w : World) : (callFunc 84 #[.int .u64 x, .int .u64 y, .int .u64 0]).run Try.prog w =
    .ok (.value (.tuple #[.int .u64 (x - y), .int .u64 0])) w := by
  obtain ⟨x, rfl⟩ := Int.eq_ofNat_of_zero_le (show 0 ≤ x by omega)
  obtain ⟨y, rfl⟩ := Int.eq_ofNat_of_zero_le hy
  refine Eq.trans (b := (callFunc 84 #[.int .u64 (x : Int), .int .u64 (y : Int), .int .u64 ((0 : Nat) : Int)]).run Try.prog w) rfl ?_
  rw [run_callFunc_extern Try.func84 (by kernel_rfl) (by kernel_rfl) (by kernel_rfl) (e := sub64Entry) (by kernel_rfl), run_sub64 x y 0 (by omega) w, if_neg (by omega)]
  have e : (((x + 18446744073709551616 - y - 0) % 18446744073709551616 : Nat) : Int) = (x : Int) - y := by omega
  rw [e]
  rfl

theorem mul64_any (x y : Int) (hx : 0 ≤ x) (hx' : x < 18446744073709551616) (hy : 0 ≤ y) (hy' : y < 18446744073709551616) (w : World) :
    Calls Try.prog 82 #[.int .u64 x, .int .u64 y] w fun e w' => e = .returned (.tuple #[.int .u64 (x * y / 18446744073709551616), .int .u64 (x * y % 18446744073709551616)]) ∧ w = w' := by
  obtain ⟨x, rfl⟩ := Int.eq_ofNat_of_zero_le hx
  obtain ⟨y, rfl⟩ := Int.eq_ofNat_of_zero_le hy
  exact (Try.bits_Mul64 x y (by omega) (by omega) w).mono fun e w' h => ⟨h.1.trans (by simp), h.2.symm⟩

set_option maxHeartbeats 1000000 in
theorem product_any (x y : Int) (hx : 0 ≤ x) (hx' : x < 18446744073709551616) (hy : 0 ≤ y) (hy' : y < 18446744073709551616) (w : World) :
    Calls Try.prog 63 #[.int .u64 x, .int .u64 y] w fun e w' => e = .returned (.agg #[.int .u64 (x * y / 18446744073709551616), .int .u64 (x * y % 18446744073709551616)]) ∧ Below w.heap.size w w' := by
  obtain ⟨h, hh⟩ : ∃ h, x * y / 18446744073709551616 = h := ⟨_, rfl⟩
  obtain ⟨l, hl⟩ : ∃ l, x * y % 18446744073709551616 = l := ⟨_, rfl⟩
  have HH := Lib.hid hh
  have HL := Lib.hid hl
  rw [hh, hl]
  clear hh hl
  go_enter Try.func63, Try.ntmps63
  go_wp2_with (go_at_call 82; (with_reducible refine (mul64_any x y hx hx' hy hy' _).mono ?_); rintro e w' ⟨rfl, rfl⟩; rw [HH.out, HL.out])
  refine bodyPost_ret (v := .agg #[.int .u64 h, .int .u64 l]) (by simp [results, Try.results63, go_sem]) rfl ⟨rfl, ?_⟩
  exact below_new _ _
theorem product_small (x y : Int) (hx : 0 ≤ x) (hx' : x < 18446744073709551616) (hy : 0 ≤ y) (hy' : y < 18446744073709551616) (h : x * y < 18446744073709551616) (w : World) :
    Calls Try.prog 63 #[.int .u64 x, .int .u64 y] w fun e w' => e = .returned (.agg #[.int .u64 0, .int .u64 (x * y)]) ∧ Below w.heap.size w w' := by
  have h0 := Int.mul_nonneg hx hy
  have e1 : x * y / 18446744073709551616 = 0 := by omega
  have e2 : x * y % 18446744073709551616 = x * y := by omega
  have := product_any x y hx hx' hy hy' w
  rw [e1, e2] at this
  exact this

set_option maxHeartbeats 1000000 in
theorem plus_small (a b : Int) (ha : 0 ≤ a) (hb : 0 ≤ b) (h : a + b < 18446744073709551616) (w : World) :
    Calls Try.prog 65 #[.agg #[.int .u64 0, .int .u64 a], .agg #[.int .u64 0, .int .u64 b]] w fun e w' => e = .returned (.agg #[.int .u64 0, .int .u64 (a + b)]) ∧ Below w.heap.size w w' := by
  have z := add64s 0 0 (by decide) (by decide) (by decide)
  simp only [Int.add_zero] at z
  go_enter Try.func65, Try.ntmps65
  go_wp2_with (first | simp only [z] | simp only [add64s a b ha hb h])
  refine bodyPost_ret (v := .agg #[.int .u64 0, .int .u64 (a + b)]) (by simp [results, Try.results65, go_sem]) rfl ⟨rfl, ?_⟩
  exact ((below_new _ _).alloc (by simp) _).alloc (by simp; omega) _
set_option maxHeartbeats 1000000 in
theorem minus_small (a b : Int) (ha : a < 18446744073709551616) (hb : 0 ≤ b) (h : b ≤ a) (w : World) :
    Calls Try.prog 67 #[.agg #[.int .u64 0, .int .u64 a], .agg #[.int .u64 0, .int .u64 b]] w fun e w' => e = .returned (.agg #[.int .u64 0, .int .u64 (a - b)]) ∧ Below w.heap.size w w' := by
  have z := sub64s 0 0 (by decide) (by decide) (by decide)
  simp only [Int.sub_zero] at z
  go_enter Try.func67, Try.ntmps67
  go_wp2_with (first | simp only [z] | simp only [sub64s a b ha hb h])
  refine bodyPost_ret (v := .agg #[.int .u64 0, .int .u64 (a - b)]) (by simp [results, Try.results67, go_sem]) rfl ⟨rfl, ?_⟩
  exact ((below_new _ _).alloc (by simp) _).alloc (by simp; omega) _
set_option maxHeartbeats 1000000 in
theorem less_small (a b : Int) (w : World) :
    Calls Try.prog 66 #[.agg #[.int .u64 0, .int .u64 a], .agg #[.int .u64 0, .int .u64 b]] w fun e w' => e = .returned (.bool (decide (a < b))) ∧ Below w.heap.size w w' := by
  go_enter Try.func66, Try.ntmps66
  go_wp2
  go_ret
  exact ⟨by simp, (below_new _ _).alloc (by simp) _⟩

set_option maxRecDepth 100000 in
set_option maxHeartbeats 2000000 in
theorem div64_small (x y : Int) (hx : 0 ≤ x) (hx' : x < 18446744073709551616) (hy : 0 < y) (hy' : y < 18446744073709551616) (w : World) :
    Calls Try.prog 85 #[.int .u64 0, .int .u64 x, .int .u64 y] w fun e w' => e = .returned (.tuple #[.int .u64 (x / y), .int .u64 (x % y)]) ∧ ∃ m, w' = w.drewN m := by
  have y0 : ¬ y = 0 := by omega
  have y0' : (y == 0) = false := by simpa using y0
  have y1 : decide (y ≤ 0) = false := by simp; omega
  have q0 : 0 ≤ x / y := Int.ediv_nonneg hx (by omega)
  have q2 : IntKind.u64.wrap (x.tdiv y) = x / y := by rw [Int.tdiv_eq_ediv_of_nonneg hx, IntKind.wrap_u64]; exact Int.emod_eq_of_lt q0 (by have := Int.ediv_le_self y hx; omega)
  have r0 : 0 ≤ x % y := Int.emod_nonneg _ y0
  have r1 : x % y < y := Int.emod_lt_of_pos _ hy
  have q3 : IntKind.u64.wrap (x.tmod y) = x % y := by rw [Int.tmod_eq_emod_of_nonneg hx, IntKind.wrap_u64]; omega
  go_enter Try.func85, Try.ntmps85
  go_wp2_with fail
  go_quiet (fail)
  go_wp2_with fail
  go_ret2
  exact ⟨by first | rfl | rw [q2] | rw [q2, q3], _, rfl⟩

set_option maxRecDepth 100000 in
set_option maxHeartbeats 2000000 in
theorem over_small (x y : Int) (hx : 0 ≤ x) (hx' : x < 18446744073709551616) (hy : 0 < y) (hy' : y < 18446744073709551616) (w : World) :
    Calls Try.prog 68 #[.agg #[.int .u64 0, .int .u64 x], .int .u64 y] w fun e w' => e = .returned (.tuple #[.agg #[.int .u64 0, .int .u64 (x / y)], .int .u64 (x % y)]) ∧ Below w.heap.size w w' := by
  have y0 : ¬ y = 0 := by omega
  have y0' : (y == 0) = false := by simpa using y0
  have z1 : (0 : Int) % y = 0 := Int.zero_emod y
  have z2 : (0 : Int) / y = 0 := Int.zero_ediv y
  have z3 : (0 : Int).tdiv y = 0 := Int.zero_tdiv y
  have z4 : (0 : Int).tmod y = 0 := Int.zero_tmod y
  go_enter Try.func68, Try.ntmps68
  go_wp2_with fail
  go_quiet ((go_at_call 85; refine Calls.quiet_of (div64_small x y hx hx' hy hy' _)))
  go_wp2_with fail
  refine bodyPost_ret (v := .tuple #[.agg #[.int .u64 0, .int .u64 (x / y)], .int .u64 (x % y)]) (by simp [results, Try.results68, go_sem]) rfl ⟨rfl, ?_⟩
  exact ((below_drewN ((below_new _ _).alloc (by simp) _) _).setCell (p := ⟨w.heap.size + 1, 0, none⟩) (by simp) _).setCell (p := ⟨w.heap.size + 1, 1, none⟩) (by simp) _
end Go.Proofs.Ytlgpolfbilkmbaa
