/-
  PLAIN: a greater speed or acceleration never makes a move longer, nor a greater distance shorter.
-/
import Derived.Test.YtlgpolfbilkmbaaTopP
namespace Go.Proofs.Ytlgpolfbilkmbaa

theorem sqn (t : Int) : 0 ≤ t * t := by
  rcases Int.le_total 0 t with h | h
  · exact Int.mul_nonneg h h
  · exact Int.mul_nonneg_of_nonpos_of_nonpos h h
theorem le_of_mul_pos {x y c : Int} (hc : 0 < c) (h : x * c ≤ y * c) : x ≤ y := Int.le_of_mul_le_mul_right h hc
/-- Two top speeds of which both can be reached: the greater one is not slower. N / D: the reciprocal accelerations. -/
theorem fast_step {D N d t s : Int} (hN : 0 ≤ N) (ht : 1 ≤ t) (hs : t ≤ s) (hr : s * s * N ≤ D * d) :
    (D * d + s * s * N) * t ≤ (D * d + t * t * N) * s := by
  have h1 : t * s ≤ s * s := Int.mul_le_mul_of_nonneg_right hs (by omega)
  have h2 : t * s * N ≤ s * s * N := Int.mul_le_mul_of_nonneg_right h1 hN
  have h3 : t * s * N * (s - t) ≤ D * d * (s - t) := Int.mul_le_mul_of_nonneg_right (by omega) (by omega)
  rw [Int.mul_sub, Int.mul_sub] at h3
  rw [Int.add_mul, Int.add_mul]
  have e1 : s * s * N * t = t * s * N * s := by ac_rfl
  have e2 : t * t * N * s = t * s * N * t := by ac_rfl
  rw [e1, e2]
  omega
theorem top_ge {d V R F t s : Int} (hR : 0 ≤ R) (hF : 0 ≤ F) (h : IsTop d V R F s) (ht : t ≤ V) (_ : 0 ≤ t) (r : Room d R F t) : t ≤ s := by
  obtain ⟨s0, s1, s2, s3⟩ := h
  rcases s3 with e | e
  · omega
  · rcases Int.lt_or_le s t with l | l
    · exact absurd (room_mono hR hF (by omega) (by omega) r) e
    · exact l
theorem room_swap {d R F t : Int} : Room d R F t ↔ Room d F R t := by
  unfold Room
  rw [Int.add_comm R F, show 2 * R * F * d = 2 * F * R * d by ac_rfl]
theorem top_swap {d V R F t : Int} (h : IsTop d V R F t) : IsTop d V F R t := by
  obtain ⟨h0, h1, h2, h3⟩ := h
  exact ⟨h0, h1, room_swap.1 h2, h3.imp id fun n r => n (room_swap.2 r)⟩
/-- The time's numerator and denominator. -/
def tN (d R F t : Int) : Int := 2 * R * F * d + t * t * (R + F)
def tD (R F t : Int) : Int := 2 * R * F * t
theorem tN_swap (d R F t : Int) : tN d R F t = tN d F R t := by unfold tN; rw [Int.add_comm R F, show 2 * R * F * d = 2 * F * R * d by ac_rfl]
theorem tD_swap (R F t : Int) : tD R F t = tD F R t := by unfold tD; ac_rfl
theorem posD {R F : Int} (hR : 1 ≤ R) (hF : 1 ≤ F) : 0 < 2 * R * F := Int.mul_pos (Int.mul_pos (by decide) (by omega)) (by omega)
/-- A greater speed. -/
theorem fast_speed {d V V' R F t s : Int} (hR : 1 ≤ R) (hF : 1 ≤ F) (t1 : 1 ≤ t) (hV : V ≤ V') (ht : IsTop d V R F t) (hs : IsTop d V' R F s) : tN d R F s * tD R F t ≤ tN d R F t * tD R F s := by
  have hle := top_ge (by omega) (by omega) hs (by have := ht.2.1; omega) (by omega) ht.2.2.1
  have h := fast_step (D := 2 * R * F) (N := R + F) (d := d) (by omega) t1 hle hs.2.2.1
  have hD := posD hR hF
  unfold tN tD
  have e1 : (2 * R * F * d + s * s * (R + F)) * (2 * R * F * t) = (2 * R * F * d + s * s * (R + F)) * t * (2 * R * F) := by ac_rfl
  have e2 : (2 * R * F * d + t * t * (R + F)) * (2 * R * F * s) = (2 * R * F * d + t * t * (R + F)) * s * (2 * R * F) := by ac_rfl
  rw [e1, e2]
  exact Int.mul_le_mul_of_nonneg_right h (Int.le_of_lt hD)
theorem acc_step {R R' F : Int} (hF : 0 ≤ F) (h : R ≤ R') : (R' + F) * (2 * R * F) ≤ (R + F) * (2 * R' * F) := by
  have h1 : F * (2 * R * F) ≤ F * (2 * R' * F) := Int.mul_le_mul_of_nonneg_left (Int.mul_le_mul_of_nonneg_right (by omega) hF) hF
  rw [Int.add_mul, Int.add_mul, show R' * (2 * R * F) = R * (2 * R' * F) by ac_rfl]
  omega
theorem room_acc {d R R' F t : Int} (hR : 1 ≤ R) (hF : 1 ≤ F) (h : R ≤ R') (r : Room d R F t) : Room d R' F t := by
  unfold Room at *
  have hD := posD hR hF
  have hD' := posD (show 1 ≤ R' by omega) hF
  refine le_of_mul_pos hD ?_
  have a := Int.mul_le_mul_of_nonneg_left (acc_step (show 0 ≤ F by omega) h) (sqn t)
  have b := Int.mul_le_mul_of_nonneg_right r (Int.le_of_lt hD')
  calc t * t * (R' + F) * (2 * R * F) = t * t * ((R' + F) * (2 * R * F)) := by ac_rfl
    _ ≤ t * t * ((R + F) * (2 * R' * F)) := a
    _ = t * t * (R + F) * (2 * R' * F) := by ac_rfl
    _ ≤ 2 * R * F * d * (2 * R' * F) := b
    _ = 2 * R' * F * d * (2 * R * F) := by ac_rfl
/-- A greater acceleration. -/
theorem fast_rise {d V R R' F t s : Int} (hR : 1 ≤ R) (hF : 1 ≤ F) (t1 : 1 ≤ t) (h : R ≤ R') (ht : IsTop d V R F t) (hs : IsTop d V R' F s) : tN d R' F s * tD R F t ≤ tN d R F t * tD R' F s := by
  have r := room_acc hR hF h ht.2.2.1
  have hle := top_ge (by omega) (by omega) hs ht.2.1 (by omega) r
  have a := fast_step (D := 2 * R' * F) (N := R' + F) (d := d) (by omega) t1 hle hs.2.2.1
  have hD := posD hR hF
  have hD' := posD (show 1 ≤ R' by omega) hF
  have b := Int.mul_le_mul_of_nonneg_left (acc_step (show 0 ≤ F by omega) h) (sqn t)
  unfold tN tD
  -- multiply the first by 2 R F; then exchange the accelerations
  have c := Int.mul_le_mul_of_nonneg_right a (Int.le_of_lt hD)
  have b2 := Int.mul_le_mul_of_nonneg_right b (show 0 ≤ s by omega)
  have e0 : (2 * R' * F * d + s * s * (R' + F)) * (2 * R * F * t) = (2 * R' * F * d + s * s * (R' + F)) * t * (2 * R * F) := by ac_rfl
  have e1 : (2 * R' * F * d + t * t * (R' + F)) * s * (2 * R * F) = (2 * R' * F * d) * (2 * R * F) * s + t * t * ((R' + F) * (2 * R * F)) * s := by
    rw [Int.add_mul, Int.add_mul]
    congr 1 <;> ac_rfl
  have e2 : (2 * R * F * d + t * t * (R + F)) * (2 * R' * F * s) = (2 * R' * F * d) * (2 * R * F) * s + t * t * ((R + F) * (2 * R' * F)) * s := by
    rw [Int.add_mul]
    congr 1 <;> ac_rfl
  rw [e0, e2]
  rw [e1] at c
  omega
theorem fast_fall {d V R F F' t s : Int} (hR : 1 ≤ R) (hF : 1 ≤ F) (t1 : 1 ≤ t) (h : F ≤ F') (ht : IsTop d V R F t) (hs : IsTop d V R F' s) : tN d R F' s * tD R F t ≤ tN d R F t * tD R F' s := by
  have := fast_rise hF hR t1 h (top_swap ht) (top_swap hs)
  rwa [← tN_swap d R F', ← tD_swap R F, ← tN_swap d R F, ← tD_swap R F'] at this
/-- A greater distance, one further step of speed: what parity says. -/
theorem far_core {R F d d' t : Int} (hR : 1 ≤ R) (hF : 1 ≤ F) (t1 : 1 ≤ t) (hd : d + 1 ≤ d') (hn : 2 * R * F * d < (t + 1) * (t + 1) * (R + F)) (hr : (t + 1) * (t + 1) * (R + F) ≤ 2 * R * F * d') :
    2 * R * F * d ≤ 2 * R * F * (t * (d' - d)) + t * (t + 1) * (R + F) := by
  obtain ⟨D, hD⟩ : ∃ D, D = 2 * R * F := ⟨_, rfl⟩
  obtain ⟨N, hN⟩ : ∃ N, N = R + F := ⟨_, rfl⟩
  rw [← hD, ← hN] at hn hr ⊢
  have Dp : 0 < D := by rw [hD]; exact posD hR hF
  rcases Int.lt_or_le (D * (t * (d' - d)) + t * (t + 1) * N) (D * d) with l | l
  · exfalso
    have hDN : N ≤ D := by
      have : 0 ≤ (R - 1) * F := Int.mul_nonneg (by omega) (by omega)
      have : 0 ≤ (F - 1) * R := Int.mul_nonneg (by omega) (by omega)
      have e1 : (R - 1) * F = R * F - F := by rw [Int.sub_mul, Int.one_mul]
      have e2 : (F - 1) * R = R * F - R := by rw [Int.sub_mul, Int.one_mul, Int.mul_comm]
      have e : D = R * F + R * F := by rw [hD, Int.mul_assoc]; omega
      omega
    have m1 : D * t ≤ D * (t * (d' - d)) := by
      have h := Int.mul_le_mul_of_nonneg_left (show (1 : Int) ≤ d' - d by omega) (show 0 ≤ D * t from Int.mul_nonneg (by omega) (by omega))
      rw [Int.mul_one, Int.mul_assoc] at h
      exact h
    have q : (t + 1) * (t + 1) * N = t * (t + 1) * N + t * N + N := by
      rw [Int.add_mul t 1 (t + 1), Int.one_mul, Int.add_mul, Int.add_mul]
      omega
    -- e = N (t+1)^2 - D d lies in 1 .. N (t + 1) - D t - 1
    have k1 : D * t < t * N + N := by omega
    -- (D - N) t < N
    have k2 : (D - N) * t < N := by rw [Int.sub_mul, Int.mul_comm N t]; omega
    have par : ∃ h, D * d = 2 * h := ⟨R * F * d, by rw [hD]; ac_rfl⟩
    obtain ⟨h, hh⟩ := par
    have e : D = R * F + R * F := by rw [hD, Int.mul_assoc]; omega
    -- (R - 1) (F - 1) = 0
    have k3 : D - N < N := by
      have := Int.mul_le_mul_of_nonneg_left t1 (show 0 ≤ D - N by omega)
      rw [Int.mul_one] at this
      omega
    have one : R = 1 ∨ F = 1 := by
      rcases (show R = 1 ∨ 2 ≤ R by omega) with r | r
      · exact .inl r
      · rcases (show F = 1 ∨ 2 ≤ F by omega) with f | f
        · exact .inr f
        · exfalso
          have := Int.mul_le_mul_of_nonneg_left f (show 0 ≤ R - 1 by omega)
          rw [Int.sub_mul, Int.sub_mul] at this
          omega
    -- the other one: M
    obtain ⟨M, M1, eD, eN⟩ : ∃ M, 1 ≤ M ∧ D = 2 * M ∧ N = M + 1 := by
      rcases one with r | r
      · exact ⟨F, hF, by rw [hD, r]; omega, by rw [hN, r]; omega⟩
      · exact ⟨R, hR, by rw [hD, r]; omega, by rw [hN, r]⟩
    rcases (show M = 1 ∨ 2 ≤ M by omega) with m | m
    · subst m
      have hN2 : N = 2 := by omega
      have hD2 : D = 2 := by omega
      have i2 : t * (t + 1) * N = 2 * (t * (t + 1)) := by rw [hN2, Int.mul_comm]
      have k4 : t * N = 2 * t := by rw [hN2, Int.mul_comm]
      have j2 : D * t = 2 * t := by rw [hD2]
      omega
    · rcases (show t = 1 ∨ t = 2 ∨ 3 ≤ t by omega) with c | c | c
      · subst c
        omega
      · subst c
        omega
      · have := Int.mul_le_mul_of_nonneg_left c (show 0 ≤ D - N by omega)
        omega
  · exact l
/-- A greater distance. -/
theorem fast_far {d d' V R F t s : Int} (hR : 1 ≤ R) (hF : 1 ≤ F) (t1 : 1 ≤ t) (h : d ≤ d') (ht : IsTop d V R F t) (hs : IsTop d' V R F s) : tN d R F t * tD R F s ≤ tN d' R F s * tD R F t := by
  have hD := posD hR hF
  have r : Room d' R F t := by
    have := ht.2.2.1
    unfold Room at *
    have := Int.mul_le_mul_of_nonneg_left h (Int.le_of_lt hD)
    omega
  have hle := top_ge (by omega) (by omega) hs ht.2.1 (by omega) r
  have main : (2 * R * F * d + t * t * (R + F)) * s ≤ (2 * R * F * d' + s * s * (R + F)) * t := by
    rcases (show s = t ∨ t + 1 ≤ s by omega) with e | e
    · subst e
      have := Int.mul_le_mul_of_nonneg_left h (Int.le_of_lt hD)
      exact Int.mul_le_mul_of_nonneg_right (by omega) (by omega)
    · have hn : 2 * R * F * d < (t + 1) * (t + 1) * (R + F) := by
        rcases ht.2.2.2 with v | v
        · have := hs.2.1; omega
        · unfold Room at v; omega
      have hr : s * s * (R + F) ≤ 2 * R * F * d' := hs.2.2.1
      have hd : d + 1 ≤ d' := by
        rcases Int.lt_or_le d d' with l | l
        · omega
        · exfalso
          have e' : d' = d := by omega
          have : Room d' R F (t + 1) := room_mono (by omega) (by omega) (by omega) e hs.2.2.1
          unfold Room at this
          rw [e'] at this
          omega
      obtain ⟨D, hDD⟩ : ∃ D, D = 2 * R * F := ⟨_, rfl⟩
      obtain ⟨N, hN⟩ : ∃ N, N = R + F := ⟨_, rfl⟩
      rcases (show s = t + 1 ∨ t + 2 ≤ s by omega) with c | c
      · subst c
        have k := far_core hR hF t1 hd hn hr
        rw [← hDD, ← hN] at hn hr k ⊢
        have e1 : (D * d + t * t * N) * (t + 1) = D * d * t + D * d + t * t * N * (t + 1) := by rw [Int.add_mul, Int.mul_add (D * d), Int.mul_one]
        have e2 : (D * d' + (t + 1) * (t + 1) * N) * t = D * d * t + D * (t * (d' - d)) + t * (t + 1) * N * (t + 1) := by
          rw [Int.add_mul]
          have a : D * d' * t = D * d * t + D * (t * (d' - d)) := by
            rw [Int.mul_assoc, Int.mul_assoc, ← Int.mul_add, Int.mul_comm d t, ← Int.mul_add, Int.mul_comm d' t]
            congr 2
            omega
          rw [a]
          congr 1
          ac_rfl
        have e3 : t * (t + 1) * N * (t + 1) = t * t * N * (t + 1) + t * (t + 1) * N := by
          have : t * (t + 1) * N = t * t * N + t * N := by rw [Int.mul_add, Int.mul_one, Int.add_mul]
          rw [this, Int.add_mul]
          congr 1
          rw [Int.mul_add, Int.mul_one, ← this]
          rw [this]
          rw [show t * N * t = t * t * N by ac_rfl]
        rw [e1, e2, e3]
        omega
      · rw [← hDD, ← hN] at hn hr ⊢
        have Np : 0 < N := by omega
        -- left: D d s + t t N s ; D d < N (t+1)^2, so t * left < ...; compare by t >= 1
        have sq : (t + 1) * (t + 1) = t * t + 2 * t + 1 := by rw [Int.add_mul, Int.mul_add, Int.one_mul, Int.mul_one]; omega
        have a1 : D * d ≤ (t * t + 2 * t + 1) * N := by rw [← sq]; omega
        have a2 : D * d * s ≤ (t * t + 2 * t + 1) * N * s := Int.mul_le_mul_of_nonneg_right a1 (by omega)
        have b1 : (s * s * N + s * s * N) * t ≤ (D * d' + s * s * N) * t := Int.mul_le_mul_of_nonneg_right (by omega) (by omega)
        have b2 : (t * t + 2 * t + 1 + t * t) * N * s ≤ (s * s * N + s * s * N) * t := by
          have q1 : t * t + 2 * t + 1 + t * t ≤ 2 * (s * t) := by
            have := Int.mul_le_mul_of_nonneg_right c (show 0 ≤ t by omega)
            rw [Int.add_mul] at this
            omega
          have q2 := Int.mul_le_mul_of_nonneg_right (Int.mul_le_mul_of_nonneg_right q1 (Int.le_of_lt Np)) (show 0 ≤ s by omega)
          have q3 : 2 * (s * t) * N * s = (s * s * N + s * s * N) * t := by
            rw [← Int.two_mul]
            ac_rfl
          omega
        have b3 : (t * t + 2 * t + 1 + t * t) * N * s = (t * t + 2 * t + 1) * N * s + t * t * N * s := by rw [Int.add_mul (t * t + 2 * t + 1) (t * t) N, Int.add_mul]
        rw [Int.add_mul]
        omega
  unfold tN tD
  have e1 : (2 * R * F * d + t * t * (R + F)) * (2 * R * F * s) = (2 * R * F * d + t * t * (R + F)) * s * (2 * R * F) := by ac_rfl
  have e2 : (2 * R * F * d' + s * s * (R + F)) * (2 * R * F * t) = (2 * R * F * d' + s * s * (R + F)) * t * (2 * R * F) := by ac_rfl
  rw [e1, e2]
  exact Int.mul_le_mul_of_nonneg_right main (Int.le_of_lt hD)
end Go.Proofs.Ytlgpolfbilkmbaa
