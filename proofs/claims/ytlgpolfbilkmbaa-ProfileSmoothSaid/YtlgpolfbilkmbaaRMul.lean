/-
  THE WALK of the reference's product of two words (02), by halves of 32 bits.
-/
import Derived.Test.YtlgpolfbilkmbaaRef2a
import Derived.Test.YtlgpolfbilkmbaaRat4
import Derived.Laws.Bits64b
import Derived.Outline
namespace Go.Proofs.Ytlgpolfbilkmbaa
open Go.RowKit Go.Shelf

/-- The product by halves: plain. -/
theorem half_mul {a b m : Int} (a0 : 0 ≤ a) (a1 : a ≤ m) (b0 : 0 ≤ b) (b1 : b ≤ m) : 0 ≤ a * b ∧ a * b ≤ m * m := ⟨Int.mul_nonneg a0 b0, Int.mul_le_mul a1 b1 b0 (by omega)⟩
theorem and_low (x : Int) (h0 : 0 ≤ x) (h1 : x < 18446744073709551616) : bits .and .u64 x 4294967295 = x % 4294967296 := by
  obtain ⟨n, rfl⟩ := Int.eq_ofNat_of_zero_le h0
  have h := bits_and_u64_nat n 4294967295 (by omega) (by omega)
  have e : n &&& 4294967295 = n % 4294967296 := Nat.and_two_pow_sub_one_eq_mod n 32
  rw [e] at h
  exact h.trans (by omega)

theorem halves {a b m p1 p2 p3 p4 mid oth : Int} (hm : m = 4294967296) (h1 : p1 = a % m * (b % m)) (h2 : p2 = a / m * (b % m)) (h3 : p3 = a % m * (b / m)) (h4 : p4 = a / m * (b / m)) (hmid : mid = p2 + p1 / m) (ho : oth = p3 + mid % m) :
    a * b = (p4 + mid / m + oth / m) * (m * m) + (oth % m * m + p1 % m) := by
  have ea : a = m * (a / m) + a % m := (Int.mul_ediv_add_emod a m).symm
  have eb : b = m * (b / m) + b % m := (Int.mul_ediv_add_emod b m).symm
  have e : a * b = m * (m * p4) + m * p2 + m * p3 + p1 := by
    rw [h1, h2, h3, h4]
    calc a * b = (m * (a / m) + a % m) * (m * (b / m) + b % m) := by rw [← ea, ← eb]
      _ = m * (m * (a / m * (b / m))) + m * (a / m * (b % m)) + m * (a % m * (b / m)) + a % m * (b % m) := by
        rw [Int.add_mul, Int.mul_add, Int.mul_add]
        have x1 : m * (a / m) * (m * (b / m)) = m * (m * (a / m * (b / m))) := by ac_rfl
        have x2 : m * (a / m) * (b % m) = m * (a / m * (b % m)) := by ac_rfl
        have x3 : a % m * (m * (b / m)) = m * (a % m * (b / m)) := by ac_rfl
        rw [x1, x2, x3]
        omega
  rw [e]
  subst hm
  omega

set_option maxHeartbeats 4000000 in
theorem rmul_any (a b : Int) (a0 : 0 ≤ a) (a1 : a < 18446744073709551616) (b0 : 0 ≤ b) (b1 : b < 18446744073709551616) (w : World) :
    Calls Try.prog 52 #[.int .u64 a, .int .u64 b] w fun e w' => e = .returned (.agg #[.int .u64 (a * b / 18446744073709551616), .int .u64 (a * b % 18446744073709551616)]) ∧ Below w.heap.size w w' := by
  have ha := and_low a a0 a1
  have hb := and_low b b0 b1
  obtain ⟨p1, h1⟩ : ∃ p, p = a % 4294967296 * (b % 4294967296) := ⟨_, rfl⟩
  obtain ⟨p2, h2⟩ : ∃ p, p = a / 4294967296 * (b % 4294967296) := ⟨_, rfl⟩
  obtain ⟨p3, h3⟩ : ∃ p, p = a % 4294967296 * (b / 4294967296) := ⟨_, rfl⟩
  obtain ⟨p4, h4⟩ : ∃ p, p = a / 4294967296 * (b / 4294967296) := ⟨_, rfl⟩
  obtain ⟨mid, h5⟩ : ∃ p, p = p2 + p1 / 4294967296 := ⟨_, rfl⟩
  obtain ⟨oth, h6⟩ : ∃ p, p = p3 + mid % 4294967296 := ⟨_, rfl⟩
  have c1 := half_mul (a := a % 4294967296) (b := b % 4294967296) (m := 4294967295) (by omega) (by omega) (by omega) (by omega)
  have c2 := half_mul (a := a / 4294967296) (b := b % 4294967296) (m := 4294967295) (by omega) (by omega) (by omega) (by omega)
  have c3 := half_mul (a := a % 4294967296) (b := b / 4294967296) (m := 4294967295) (by omega) (by omega) (by omega) (by omega)
  have c4 := half_mul (a := a / 4294967296) (b := b / 4294967296) (m := 4294967295) (by omega) (by omega) (by omega) (by omega)
  rw [← h1] at c1
  rw [← h2] at c2
  rw [← h3] at c3
  rw [← h4] at c4
  have hH := halves rfl h1 h2 h3 h4 h5 h6
  have u1 : IntKind.u64.wrap (a % 4294967296 * (b % 4294967296)) = p1 := by rw [← h1, IntKind.wrap_u64]; omega
  have u2 : IntKind.u64.wrap (a / 4294967296 * (b % 4294967296)) = p2 := by rw [← h2, IntKind.wrap_u64]; omega
  have u3 : IntKind.u64.wrap (a % 4294967296 * (b / 4294967296)) = p3 := by rw [← h3, IntKind.wrap_u64]; omega
  have u4 : IntKind.u64.wrap (a / 4294967296 * (b / 4294967296)) = p4 := by rw [← h4, IntKind.wrap_u64]; omega
  have u5 : IntKind.u64.wrap (p2 + p1 / 4294967296) = mid := by rw [← h5, IntKind.wrap_u64]; omega
  have u6 := and_low mid (by omega) (by omega)
  have u7 : IntKind.u64.wrap (p3 + mid % 4294967296) = oth := by rw [← h6, IntKind.wrap_u64]; omega
  have hab := half_mul (m := 18446744073709551615) a0 (show a ≤ _ by omega) b0 (show b ≤ _ by omega)
  have q1 : p4 + mid / 4294967296 + oth / 4294967296 = a * b / 18446744073709551616 := by omega
  have q2 : oth % 4294967296 * 4294967296 + p1 % 4294967296 = a * b % 18446744073709551616 := by omega
  obtain ⟨H, hHH⟩ : ∃ H, a * b / 18446744073709551616 = H := ⟨_, rfl⟩
  obtain ⟨L, hLL⟩ : ∃ L, a * b % 18446744073709551616 = L := ⟨_, rfl⟩
  rw [hHH, hLL]
  rw [hHH] at q1
  rw [hLL] at q2
  have u8 : IntKind.u64.wrap (p4 + mid / 4294967296) = p4 + mid / 4294967296 := by rw [IntKind.wrap_u64]; omega
  have u9 : IntKind.u64.wrap (p4 + mid / 4294967296 + oth / 4294967296) = H := by rw [IntKind.wrap_u64]; omega
  have v1 := and_low p1 (by omega) (by omega)
  have v2 : IntKind.u64.wrap (oth * 4294967296) = oth % 4294967296 * 4294967296 := by rw [IntKind.wrap_u64]; omega
  have v3 : IntKind.u64.wrap (oth % 4294967296 * 4294967296 + p1 % 4294967296) = L := by rw [IntKind.wrap_u64]; omega
  clear h1 h2 h3 h4 h5 h6 c1 c2 c3 c4 hH hab q1 q2 hHH hLL
  go_enter Try.func52, Try.ntmps52
  go_wp2_with fail
  refine bodyPost_ret (v := .agg #[.int .u64 H, .int .u64 L]) (by simp [results, Try.results52, go_sem]) rfl ⟨rfl, ?_⟩
  exact below_new _ _
end Go.Proofs.Ytlgpolfbilkmbaa
