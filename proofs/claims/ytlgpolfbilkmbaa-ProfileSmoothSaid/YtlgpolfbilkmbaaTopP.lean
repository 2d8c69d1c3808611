/-
  PLAIN: the top speed: the greatest speed that can be reached, and left, over the distance.
-/
import Derived.Test.YtlgpolfbilkmbaaRows
namespace Go.Proofs.Ytlgpolfbilkmbaa
/-- A speed can be reached, and left, over a distance. -/
def Room (d R F w : Int) : Prop := w * w * (R + F) ≤ 2 * R * F * d
/-- The top speed. -/
def IsTop (d V R F t : Int) : Prop := 0 ≤ t ∧ t ≤ V ∧ Room d R F t ∧ (t = V ∨ ¬ Room d R F (t + 1))
theorem room_mono {d R F v w : Int} (hR : 0 ≤ R) (hF : 0 ≤ F) (hv : 0 ≤ v) (h : v ≤ w) (r : Room d R F w) : Room d R F v := by
  unfold Room at *
  have h1 : v * v ≤ w * w := Int.mul_le_mul h h hv (by omega)
  have h2 : v * v * (R + F) ≤ w * w * (R + F) := Int.mul_le_mul_of_nonneg_right h1 (by omega)
  omega
theorem top_unique {d V R F s t : Int} (hR : 0 ≤ R) (hF : 0 ≤ F) (hs : IsTop d V R F s) (ht : IsTop d V R F t) : s = t := by
  obtain ⟨s0, s1, s2, s3⟩ := hs
  obtain ⟨t0, t1, t2, t3⟩ := ht
  rcases Int.lt_trichotomy s t with l | l | l
  · rcases s3 with e | e
    · omega
    · exact absurd (room_mono hR hF (by omega) (by omega) t2) e
  · exact l
  · rcases t3 with e | e
    · omega
    · exact absurd (room_mono hR hF (by omega) (by omega) s2) e
theorem room_zero {d R F : Int} (hR : 0 ≤ R) (hF : 0 ≤ F) (hd : 0 ≤ d) : Room d R F 0 := by
  unfold Room
  have := Int.mul_nonneg (Int.mul_nonneg (Int.mul_nonneg (show (0 : Int) ≤ 2 by decide) hR) hF) hd
  simpa using this
theorem top_ex {d R F : Int} (hR : 0 ≤ R) (hF : 0 ≤ F) (hd : 0 ≤ d) (n : Nat) : ∃ t, IsTop d n R F t := by
  induction n with
  | zero => exact ⟨0, Int.le_refl _, Int.le_refl _, room_zero hR hF hd, .inl rfl⟩
  | succ n ih =>
    obtain ⟨t, t0, t1, t2, t3⟩ := ih
    rcases t3 with e | e
    · by_cases c : Room d R F (t + 1)
      · exact ⟨t + 1, by omega, by omega, c, .inl (by omega)⟩
      · exact ⟨t, t0, by omega, t2, .inr c⟩
    · exact ⟨t, t0, by omega, t2, .inr e⟩
theorem top_exI {d V R F : Int} (hR : 0 ≤ R) (hF : 0 ≤ F) (hd : 0 ≤ d) (hV : 0 ≤ V) : ∃ t, IsTop d V R F t := by
  obtain ⟨n, rfl⟩ := Int.eq_ofNat_of_zero_le hV
  exact top_ex hR hF hd n
theorem top_zero {V R F : Int} (hR : 0 < R) (hF : 0 < F) (hV : 0 ≤ V) : IsTop 0 V R F 0 := by
  refine ⟨Int.le_refl _, hV, room_zero (by omega) (by omega) (Int.le_refl _), .inr ?_⟩
  unfold Room
  simp
  omega
/-- The numbers of the test stay small. -/
theorem room_bd {d R F w : Int} (d0 : 0 ≤ d) (d1 : d ≤ 1048576) (R0 : 0 ≤ R) (R1 : R ≤ 16384) (F0 : 0 ≤ F) (F1 : F ≤ 16384) (w0 : 0 ≤ w) (w1 : w ≤ 8192) :
    0 ≤ w * w ∧ w * w ≤ 67108864 ∧ 0 ≤ w * w * (R + F) ∧ w * w * (R + F) ≤ 2199023255552 ∧ 0 ≤ 2 * d * R ∧ 2 * d * R ≤ 34359738368 ∧ 0 ≤ 2 * d * R * F ∧ 2 * d * R * F ≤ 562949953421312 ∧ 2 * d * R * F = 2 * R * F * d ∧ 0 ≤ 2 * R * F ∧ 2 * R * F ≤ 536870912 := by
  have a0 := Int.mul_nonneg w0 w0
  have a1 : w * w ≤ 8192 * 8192 := Int.mul_le_mul w1 w1 w0 (by decide)
  have b0 := Int.mul_nonneg a0 (show 0 ≤ R + F by omega)
  have b1 : w * w * (R + F) ≤ 67108864 * 32768 := Int.mul_le_mul (by omega) (by omega) (by omega) (by decide)
  have c0 := Int.mul_nonneg (show 0 ≤ 2 * d by omega) R0
  have c1 : 2 * d * R ≤ 2097152 * 16384 := Int.mul_le_mul (by omega) (by omega) (by omega) (by decide)
  have e0 := Int.mul_nonneg c0 F0
  have e1 : 2 * d * R * F ≤ 34359738368 * 16384 := Int.mul_le_mul (by omega) (by omega) (by omega) (by decide)
  have f0 := Int.mul_nonneg (show 0 ≤ 2 * R by omega) F0
  have f1 : 2 * R * F ≤ 32768 * 16384 := Int.mul_le_mul (by omega) (by omega) (by omega) (by decide)
  refine ⟨a0, by omega, b0, by omega, c0, by omega, e0, by omega, by ac_rfl, f0, by omega⟩
end Go.Proofs.Ytlgpolfbilkmbaa
