/-
  THE WALKS of ratio.product, plus, minus, less, over, where the high words are 0.
-/
import Derived.Test.YthldfijlcoobgaaGreatRat2
import Derived.Test.YthldfijlcoobgaaGreatShelf
import Derived.Shelf.Spec.BitsCarry
namespace Go.Proofs.YthldfijlcoobgaaGreat
open Go.RowKit Go.Shelf

theorem mul64_any (x y : Int) (hx : 0 ≤ x) (hx' : x < 18446744073709551616) (hy : 0 ≤ y) (hy' : y < 18446744073709551616) (w : World) :
    Calls Tryz.prog 107 #[.int .u64 x, .int .u64 y] w fun e w' => e = .returned (.tuple #[.int .u64 (x * y / 18446744073709551616), .int .u64 (x * y % 18446744073709551616)]) ∧ w = w' := by
  obtain ⟨x, rfl⟩ := Int.eq_ofNat_of_zero_le hx
  obtain ⟨y, rfl⟩ := Int.eq_ofNat_of_zero_le hy
  exact (Tryz.bits_Mul64 x y (by omega) (by omega) w).mono fun e w' h => ⟨h.1.trans (by simp), h.2.symm⟩

set_option maxHeartbeats 1000000 in
theorem product_any (x y : Int) (hx : 0 ≤ x) (hx' : x < 18446744073709551616) (hy : 0 ≤ y) (hy' : y < 18446744073709551616) (w : World) :
    Calls Tryz.prog 98 #[.int .u64 x, .int .u64 y] w fun e w' => e = .returned (.agg #[.int .u64 (x * y / 18446744073709551616), .int .u64 (x * y % 18446744073709551616)]) ∧ Below w.heap.size w w' := by
  obtain ⟨h, hh⟩ : ∃ h, x * y / 18446744073709551616 = h := ⟨_, rfl⟩
  obtain ⟨l, hl⟩ : ∃ l, x * y % 18446744073709551616 = l := ⟨_, rfl⟩
  have HH := Lib.hid hh
  have HL := Lib.hid hl
  rw [hh, hl]
  clear hh hl
  go_enter Tryz.func98, Tryz.ntmps98
  go_wp2_with (go_at_call 107; (with_reducible refine (mul64_any x y hx hx' hy hy' _).mono ?_); rintro e w' ⟨rfl, rfl⟩; rw [HH.out, HL.out])
  refine bodyPost_ret (v := .agg #[.int .u64 h, .int .u64 l]) (by simp [results, Tryz.results98, go_sem]) rfl ⟨rfl, ?_⟩
  exact below_new _ _
theorem product_small (x y : Int) (hx : 0 ≤ x) (hx' : x < 18446744073709551616) (hy : 0 ≤ y) (hy' : y < 18446744073709551616) (h : x * y < 18446744073709551616) (w : World) :
    Calls Tryz.prog 98 #[.int .u64 x, .int .u64 y] w fun e w' => e = .returned (.agg #[.int .u64 0, .int .u64 (x * y)]) ∧ Below w.heap.size w w' := by
  have h0 := Int.mul_nonneg hx hy
  have e1 : x * y / 18446744073709551616 = 0 := by omega
  have e2 : x * y % 18446744073709551616 = x * y := by omega
  have := product_any x y hx hx' hy hy' w
  rw [e1, e2] at this
  exact this

end Go.Proofs.YthldfijlcoobgaaGreat
