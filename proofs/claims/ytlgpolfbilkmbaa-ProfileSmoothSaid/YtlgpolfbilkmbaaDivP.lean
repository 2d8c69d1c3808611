/-
  PLAIN: a long division of two words by one, digit by digit (bits.Div64).
-/
import Derived.Test.YtlgpolfbilkmbaaRows
namespace Go.Proofs.Ytlgpolfbilkmbaa
section
variable {u y1 y0 d : Int}
theorem dig_mul (k y1 y0 : Int) : k * (y1 * 4294967296 + y0) = k * y1 * 4294967296 + k * y0 := by rw [Int.mul_add, Int.mul_assoc]
theorem dig_lt (hy : 0 < y1 * 4294967296 + y0) (hu : u < y1 * 4294967296 + y0) (d1 : d < 4294967296) : (u * 4294967296 + d) / (y1 * 4294967296 + y0) < 4294967296 := by
  refine Int.ediv_lt_of_lt_mul hy ?_
  generalize y1 * 4294967296 + y0 = y at *
  omega
theorem dig_nonneg (hy : 0 < y1 * 4294967296 + y0) (u0 : 0 ≤ u) (d0 : 0 ≤ d) : 0 ≤ (u * 4294967296 + d) / (y1 * 4294967296 + y0) := Int.ediv_nonneg (by omega) (by omega)
theorem dig_start (h1 : 2147483648 ≤ y1) (h2 : 0 ≤ y0) (h3 : y0 < 4294967296) (u0 : 0 ≤ u) (hu : u < y1 * 4294967296 + y0) (d0 : 0 ≤ d) (d1 : d < 4294967296) :
    (u * 4294967296 + d) / (y1 * 4294967296 + y0) ≤ u / y1 ∧ u / y1 ≤ 4294967297 ∧ 0 ≤ u - u / y1 * y1 ∧ u - u / y1 * y1 < y1 := by
  have hy : 0 < y1 * 4294967296 + y0 := by omega
  refine ⟨?_, ?_, ?_, ?_⟩
  · rw [Int.le_ediv_iff_mul_le (by omega)]
    have a := Int.ediv_mul_le (u * 4294967296 + d) (show y1 * 4294967296 + y0 ≠ 0 by omega)
    have b := dig_nonneg (y1 := y1) (y0 := y0) hy u0 d0
    rw [dig_mul] at a
    generalize (u * 4294967296 + d) / (y1 * 4294967296 + y0) = q at *
    have c := Int.mul_nonneg b h2
    generalize q * y1 = P at *
    generalize q * y0 = R at *
    omega
  · have : u / y1 < 4294967298 := Int.ediv_lt_of_lt_mul (by omega) (by omega)
    omega
  · have := Int.ediv_mul_le u (show y1 ≠ 0 by omega)
    omega
  · have := Int.lt_ediv_add_one_mul_self u (show 0 < y1 by omega)
    rw [Int.add_mul, Int.one_mul] at this
    omega
/-- The loop that corrects a digit: what holds of the digit k and the rest r. -/
structure Dig (u y1 y0 d k r : Int) : Prop where
  rest : r = u - k * y1
  low : (u * 4294967296 + d) / (y1 * 4294967296 + y0) ≤ k
  high : k ≤ 4294967297
  pos : 0 ≤ r
  less : r < 4294967296
theorem Dig.start (h1 : 2147483648 ≤ y1) (h1' : y1 < 4294967296) (h2 : 0 ≤ y0) (h3 : y0 < 4294967296) (u0 : 0 ≤ u) (hu : u < y1 * 4294967296 + y0) (d0 : 0 ≤ d) (d1 : d < 4294967296) : Dig u y1 y0 d (u / y1) (u - u / y1 * y1) := by
  obtain ⟨a, b, c, e⟩ := dig_start h1 h2 h3 u0 hu d0 d1
  exact ⟨rfl, a, b, c, by omega⟩
theorem Dig.pred {k r : Int} (h : Dig u y1 y0 d k r) (hy : 0 < y1 * 4294967296 + y0) (hu : u < y1 * 4294967296 + y0) (d1 : d < 4294967296) (hc : 4294967296 ≤ k ∨ 4294967296 * r + d < k * y0) : (u * 4294967296 + d) / (y1 * 4294967296 + y0) ≤ k - 1 := by
  rcases hc with hc | hc
  · have := dig_lt hy hu d1
    omega
  · have : (u * 4294967296 + d) / (y1 * 4294967296 + y0) < k := by
      refine Int.ediv_lt_of_lt_mul hy ?_
      rw [dig_mul]
      have := h.rest
      generalize k * y1 = P at *
      generalize k * y0 = R at *
      omega
    omega
theorem Dig.next {k r : Int} (h : Dig u y1 y0 d k r) (h1 : 0 < y1) (hy : 0 < y1 * 4294967296 + y0) (hu : u < y1 * 4294967296 + y0) (d1 : d < 4294967296) (hc : 4294967296 ≤ k ∨ 4294967296 * r + d < k * y0) (hr : r + y1 < 4294967296) : Dig u y1 y0 d (k - 1) (r + y1) := by
  refine ⟨?_, h.pred hy hu d1 hc, ?_, ?_, hr⟩
  · have := h.rest
    rw [Int.sub_mul, Int.one_mul]
    omega
  · have := h.high; omega
  · have := h.pos; omega
theorem Dig.done {k r : Int} (h : Dig u y1 y0 d k r) (hy : 0 < y1 * 4294967296 + y0) (hc : k * y0 ≤ 4294967296 * r + d) : k = (u * 4294967296 + d) / (y1 * 4294967296 + y0) := by
  refine Int.le_antisymm ?_ h.low
  rw [Int.le_ediv_iff_mul_le hy, dig_mul]
  have := h.rest
  generalize k * y1 = P at *
  generalize k * y0 = R at *
  omega
theorem Dig.out {k r : Int} (h : Dig u y1 y0 d k r) (hy : 0 < y1 * 4294967296 + y0) (hu : u < y1 * 4294967296 + y0) (h2 : 0 ≤ y0) (h3 : y0 < 4294967296) (d0 : 0 ≤ d) (d1 : d < 4294967296) (hc : 4294967296 ≤ k ∨ 4294967296 * r + d < k * y0) (hr : 4294967296 ≤ r + y1) : k - 1 = (u * 4294967296 + d) / (y1 * 4294967296 + y0) := by
  have hp := h.pred hy hu d1 hc
  have hh := h.high
  have hrest : r + y1 = u - (k - 1) * y1 := by rw [Int.sub_mul, Int.one_mul, h.rest]; omega
  refine Int.le_antisymm ?_ hp
  rw [Int.le_ediv_iff_mul_le hy]
  have hk : k - 1 ≤ 4294967295 := by
    rcases (show k - 1 ≤ 4294967295 ∨ k - 1 = 4294967296 by omega) with e | e
    · exact e
    · rw [e] at hrest; omega
  have hm : (k - 1) * y0 ≤ 4294967295 * 4294967295 := Int.mul_le_mul hk (by omega) h2 (by omega)
  rw [dig_mul]
  generalize (k - 1) * y1 = P at *
  generalize (k - 1) * y0 = R at *
  omega
theorem Dig.small {k r : Int} (h : Dig u y1 y0 d k r) (hk : 0 ≤ k) (h2 : 0 ≤ y0) (h3 : y0 < 4294967296) (d0 : 0 ≤ d) (d1 : d < 4294967296) : 0 ≤ k * y0 ∧ k * y0 < 18446744073709551616 ∧ 0 ≤ 4294967296 * r + d ∧ 4294967296 * r + d < 18446744073709551616 := by
  have h4 := h.high
  have h5 := h.pos
  have h6 := h.less
  have a := Int.mul_nonneg hk h2
  have b : k * y0 ≤ 4294967297 * 4294967295 := Int.mul_le_mul h4 (by omega) h2 (by omega)
  generalize k * y0 = R at *
  omega
end
/-- The whole: two digits. -/
theorem two_digits {N v s y u32 u1 u0 q1 u21 q0 r : Int} (hs : 0 < s) (hv : 0 < v) (hy : y = v * s) (hN : N * s = (u32 * 4294967296 + u1) * 4294967296 + u0)
    (h1 : q1 = (u32 * 4294967296 + u1) / y) (h2 : u21 = (u32 * 4294967296 + u1) % y) (h3 : q0 = (u21 * 4294967296 + u0) / y) (h4 : r = (u21 * 4294967296 + u0) % y) :
    q1 * 4294967296 + q0 = N / v ∧ r / s = N % v := by
  have hy0 : 0 < y := by rw [hy]; exact Int.mul_pos hv hs
  have e1 := Int.mul_ediv_add_emod (u32 * 4294967296 + u1) y
  have e2 := Int.mul_ediv_add_emod (u21 * 4294967296 + u0) y
  rw [← h1, ← h2] at e1
  rw [← h3, ← h4] at e2
  have b1 := Int.emod_nonneg (u21 * 4294967296 + u0) (show y ≠ 0 by omega)
  have b2 := Int.emod_lt_of_pos (u21 * 4294967296 + u0) hy0
  rw [← h4] at b1 b2
  have eM : N * s = r + y * (q1 * 4294967296 + q0) := by
    rw [hN, Int.mul_add, ← Int.mul_assoc]
    generalize y * q1 = A at *
    generalize y * q0 = C at *
    omega
  have d1 : (N * s) / y = q1 * 4294967296 + q0 := by
    rw [eM, Int.add_mul_ediv_left _ _ (by omega), Int.ediv_eq_zero_of_lt b1 b2, Int.zero_add]
  have d2 : (N * s) % y = r := by
    rw [eM, Int.add_mul_emod_self_left, Int.emod_eq_of_lt b1 b2]
  rw [hy] at d1 d2
  rw [Int.mul_ediv_mul_of_pos_left _ _ hs] at d1
  rw [Int.mul_comm N s, Int.mul_comm v s, Int.mul_emod_mul_of_pos _ _ hs] at d2
  refine ⟨d1.symm, ?_⟩
  rw [← d2, Int.mul_ediv_cancel_left _ (by omega)]
end Go.Proofs.Ytlgpolfbilkmbaa
