/-
  PLAIN: the shift that makes a divisor great (bits.Div64), and what it does to two words.
-/
import Derived.Test.YtlgpolfbilkmbaaDivP
import Derived.Laws.Bits64b
import Derived.WalkKit
namespace Go.Proofs.Ytlgpolfbilkmbaa
open Go.RowKit
theorem pow_split {s : Nat} (hs : s ≤ 64) : (2 : Int) ^ s * 2 ^ (64 - s) = 18446744073709551616 := by
  rw [← Int.pow_add, show s + (64 - s) = 64 by omega]
  rfl
section
variable {hi lo v P Q : Int}
theorem norm_hi (hP : 0 < P) (h0 : 0 ≤ hi) (h1 : hi < v) : 0 ≤ hi * P ∧ hi * P + P ≤ v * P := by
  refine ⟨Int.mul_nonneg h0 (by omega), ?_⟩
  have : (hi + 1) * P ≤ v * P := Int.mul_le_mul_of_nonneg_right (by omega) (by omega)
  rw [Int.add_mul, Int.one_mul] at this
  exact this
theorem norm_lo (hP : 0 < P) (hQ : 0 < Q) (hPQ : P * Q = 18446744073709551616) (l0 : 0 ≤ lo) (l1 : lo < 18446744073709551616) : 0 ≤ lo / Q ∧ lo / Q < P ∧ lo * P = lo / Q * 18446744073709551616 + lo * P % 18446744073709551616 := by
  have a : 0 ≤ lo / Q := Int.ediv_nonneg l0 (by omega)
  have b : lo / Q < P := Int.ediv_lt_of_lt_mul hQ (by rw [hPQ]; exact l1)
  refine ⟨a, b, ?_⟩
  have e : lo * P = lo / Q * (P * Q) + lo % Q * P := by
    have e1 := Int.mul_ediv_add_emod lo Q
    calc lo * P = (Q * (lo / Q) + lo % Q) * P := by rw [e1]
      _ = lo / Q * (P * Q) + lo % Q * P := by
        rw [Int.add_mul]
        congr 1
        ac_rfl
  have c : 0 ≤ lo % Q * P := Int.mul_nonneg (Int.emod_nonneg _ (by omega)) (by omega)
  have d : lo % Q * P < Q * P := Int.mul_lt_mul_of_pos_right (Int.emod_lt_of_pos _ hQ) hP
  rw [Int.mul_comm Q P, hPQ] at d
  rw [hPQ] at e
  omega
theorem norm_all (hP : 0 < P) (hQ : 0 < Q) (hPQ : P * Q = 18446744073709551616) (l0 : 0 ≤ lo) (l1 : lo < 18446744073709551616) :
    (hi * 18446744073709551616 + lo) * P = ((hi * P + lo / Q) * 4294967296 + lo * P % 18446744073709551616 / 4294967296) * 4294967296 + lo * P % 18446744073709551616 % 4294967296 := by
  have h := (norm_lo hP hQ hPQ l0 l1).2.2
  rw [Int.add_mul, h, show hi * 18446744073709551616 * P = hi * P * 18446744073709551616 by ac_rfl]
  generalize hi * P = A
  generalize lo / Q = C
  generalize lo * P = D
  omega
end
theorem or_join (a r : Int) (s : Nat) (a0 : 0 ≤ a) (r0 : 0 ≤ r) (r1 : r < 2 ^ s) (h : a * 2 ^ s + r < 18446744073709551616) : bits .or .u64 (a * 2 ^ s) r = a * 2 ^ s + r := by
  obtain ⟨a, rfl⟩ := Int.eq_ofNat_of_zero_le a0
  obtain ⟨r, rfl⟩ := Int.eq_ofNat_of_zero_le r0
  have e : ((a : Int) * 2 ^ s) = ((a * 2 ^ s : Nat) : Int) := by rw [Int.natCast_mul, Int.natCast_pow]; rfl
  have hr : r < 2 ^ s := by
    have e2 : ((2 : Int) ^ s) = ((2 ^ s : Nat) : Int) := by rw [Int.natCast_pow]; rfl
    rw [e2] at r1
    omega
  rw [e] at h ⊢
  rw [bits_or_u64_nat _ _ (by omega) (by omega), Nat.mul_comm, ← Nat.two_pow_add_eq_or_of_lt hr]
  omega
theorem and_half (x : Int) (h0 : 0 ≤ x) (h1 : x < 18446744073709551616) : bits .and .u64 x 4294967295 = x % 4294967296 := by
  obtain ⟨n, rfl⟩ := Int.eq_ofNat_of_zero_le h0
  have h := bits_and_u64_nat n 4294967295 (by omega) (by omega)
  have e : n &&& 4294967295 = n % 4294967296 := Nat.and_two_pow_sub_one_eq_mod n 32
  rw [e] at h
  exact h.trans (by omega)
end Go.Proofs.Ytlgpolfbilkmbaa
