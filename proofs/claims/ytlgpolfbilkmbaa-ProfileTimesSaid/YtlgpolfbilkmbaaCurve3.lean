/-
  THE CURVE of a move: what package ratio gives at the numbers of a move; the walk of profile.Curve.
-/
import Derived.Test.YtlgpolfbilkmbaaCurve2
import Derived.Test.YtlgpolfbilkmbaaRat6
namespace Go.Proofs.Ytlgpolfbilkmbaa
open Go.RowKit Go.Shelf

theorem make_low {n d : Int} (hd : 0 < d) : makeP n d = fitP (lowN n d) (lowD n d) := by
  unfold makeP
  rw [if_neg (by omega)]
  have e1 : ((n.natAbs : Int)) / (Int.gcd n d : Int) = ((lowN n d).natAbs : Int) := by rw [lowN_abs, Int.natCast_ediv]
  have e2 : ((d.natAbs : Int)) / (Int.gcd n d : Int) = lowD n d := by rw [show (d.natAbs : Int) = d by omega]; rfl
  rw [e1, e2]
  refine sign_fit ?_
  have := low_sign (n := n) hd
  rw [decide_eq_false (show ¬ d < 0 by omega), Bool.eq_iff_iff]
  simp
  rw [this]
  omega
theorem fit_small {p q : Int} (h1 : p.natAbs ≤ 1152921504606846976) (h2 : q ≤ 1152921504606846976) : fitP p q = (p, q, 0) := by
  unfold fitP; rw [if_neg (by omega)]
theorem fit_low {n d : Int} (hd : 0 < d) (h1 : -1152921504606846976 ≤ n) (h1' : n ≤ 1152921504606846976) (h2 : d ≤ 1152921504606846976) : fitP (lowN n d) (lowD n d) = (lowN n d, lowD n d, 0) := by
  have a := lowN_le n d
  have b := lowD_le (n := n) hd
  exact fit_small (by omega) (by omega)
/-- A sum of two fractions in lowest terms, in lowest terms. -/
theorem add_low {n1 d1 n2 d2 N D : Int} (h1 : 0 < d1) (h2 : 0 < d2) (hD : 0 < D) (h : (n1 * d2 + n2 * d1) * D = N * (d1 * d2)) :
    lowN (lowN n1 d1 * lowD n2 d2 + lowN n2 d2 * lowD n1 d1) (lowD n1 d1 * lowD n2 d2) = lowN N D ∧ lowD (lowN n1 d1 * lowD n2 d2 + lowN n2 d2 * lowD n1 d1) (lowD n1 d1 * lowD n2 d2) = lowD N D := by
  have a1 := lowN_mul n1 d1
  have a2 := lowD_mul n1 d1
  have b1 := lowN_mul n2 d2
  have b2 := lowD_mul n2 d2
  have g1 := gcd_posR (n := n1) h1
  have g2 := gcd_posR (n := n2) h2
  have p1 := lowD_pos (n := n1) h1
  have p2 := lowD_pos (n := n2) h2
  refine low_same (Int.mul_pos p1 p2) hD ?_
  generalize lowN n1 d1 = x1 at *
  generalize lowD n1 d1 = y1 at *
  generalize lowN n2 d2 = x2 at *
  generalize lowD n2 d2 = y2 at *
  generalize (Int.gcd n1 d1 : Int) = u at *
  generalize (Int.gcd n2 d2 : Int) = v at *
  subst a1 a2 b1 b2
  have huv : u * v ≠ 0 := by have := Int.mul_pos g1 g2; omega
  refine Int.eq_of_mul_eq_mul_right huv ?_
  have e1 : (x1 * y2 + x2 * y1) * D * (u * v) = (x1 * u * (y2 * v) + x2 * v * (y1 * u)) * D := by
    have : (x1 * u * (y2 * v) + x2 * v * (y1 * u)) = (x1 * y2 + x2 * y1) * (u * v) := by
      rw [Int.add_mul]; congr 1 <;> ac_rfl
    rw [this]; ac_rfl
  rw [e1, h]
  ac_rfl
theorem mul_low2 {n1 d1 n2 d2 N D : Int} (h1 : 0 < d1) (h2 : 0 < d2) (hD : 0 < D) (h : n1 * n2 * D = N * (d1 * d2)) :
    lowN (lowN n1 d1 * lowN n2 d2) (lowD n1 d1 * lowD n2 d2) = lowN N D ∧ lowD (lowN n1 d1 * lowN n2 d2) (lowD n1 d1 * lowD n2 d2) = lowD N D := by
  have a1 := lowN_mul n1 d1
  have a2 := lowD_mul n1 d1
  have b1 := lowN_mul n2 d2
  have b2 := lowD_mul n2 d2
  have g1 := gcd_posR (n := n1) h1
  have g2 := gcd_posR (n := n2) h2
  have p1 := lowD_pos (n := n1) h1
  have p2 := lowD_pos (n := n2) h2
  refine low_same (Int.mul_pos p1 p2) hD ?_
  generalize lowN n1 d1 = x1 at *
  generalize lowD n1 d1 = y1 at *
  generalize lowN n2 d2 = x2 at *
  generalize lowD n2 d2 = y2 at *
  generalize (Int.gcd n1 d1 : Int) = u at *
  generalize (Int.gcd n2 d2 : Int) = v at *
  subst a1 a2 b1 b2
  have huv : u * v ≠ 0 := by have := Int.mul_pos g1 g2; omega
  refine Int.eq_of_mul_eq_mul_right huv ?_
  have e1 : x1 * x2 * D * (u * v) = x1 * u * (x2 * v) * D := by ac_rfl
  rw [e1, h]
  ac_rfl
theorem addP_low {n1 d1 n2 d2 N D : Int} (h1 : 0 < d1) (h2 : 0 < d2) (hD : 0 < D) (h : (n1 * d2 + n2 * d1) * D = N * (d1 * d2)) (b1 : -1152921504606846976 ≤ N) (b2 : N ≤ 1152921504606846976) (b3 : D ≤ 1152921504606846976) :
    addP (lowN n1 d1) (lowD n1 d1) (lowN n2 d2) (lowD n2 d2) = (lowN N D, lowD N D, 0) := by
  unfold addP
  obtain ⟨e1, e2⟩ := add_low h1 h2 hD h
  rw [e1, e2]
  exact fit_low hD b1 b2 b3
theorem mulP_low {n1 d1 n2 d2 N D : Int} (h1 : 0 < d1) (h2 : 0 < d2) (hD : 0 < D) (h : n1 * n2 * D = N * (d1 * d2)) (b1 : -1152921504606846976 ≤ N) (b2 : N ≤ 1152921504606846976) (b3 : D ≤ 1152921504606846976) :
    mulP (lowN n1 d1) (lowD n1 d1) (lowN n2 d2) (lowD n2 d2) = (lowN N D, lowD N D, 0) := by
  unfold mulP
  obtain ⟨e1, e2⟩ := mul_low2 h1 h2 hD h
  rw [e1, e2]
  exact fit_low hD b1 b2 b3
theorem low_one (n : Int) : lowN n 1 = n ∧ lowD n 1 = 1 := low_self (by simp)
def kP (d R F t : Int) : Int := 2 * R * F * d - t * t * (R + F)
def curveL (d R F t : Int) : List Pc := if d = 0 then [⟨0, 1, 0, 1, 0, 1, 0, 1⟩] else
  [⟨0, 1, 0, 1, 0, 1, lowN R 2, lowD R 2⟩] ++ (if kP d R F t = 0 then [] else [⟨lowN t R, lowD t R, lowN (t * t) (2 * R), lowD (t * t) (2 * R), t, 1, 0, 1⟩]) ++
  [⟨lowN (2 * F * (t * t) + kP d R F t) (2 * R * F * t), lowD (2 * F * (t * t) + kP d R F t) (2 * R * F * t), lowN (2 * F * d - t * t) (2 * F), lowD (2 * F * d - t * t) (2 * F), t, 1, lowN (-F) 2, lowD (-F) 2⟩,
   ⟨lowN (2 * F * (t * t) + kP d R F t + 2 * R * (t * t)) (2 * R * F * t), lowD (2 * F * (t * t) + kP d R F t + 2 * R * (t * t)) (2 * R * F * t), d, 1, 0, 1, 0, 1⟩]
theorem top_pos {d V R F t : Int} (hd : 1 ≤ d) (hR : 1 ≤ R) (hF : 1 ≤ F) (hV : 1 ≤ V) (h : IsTop d V R F t) : 1 ≤ t := by
  obtain ⟨t0, t1, t2, t3⟩ := h
  rcases Int.lt_or_le 0 t with l | l
  · exact l
  · obtain rfl : t = 0 := by omega
    rcases t3 with e | e
    · omega
    · refine absurd ?_ e
      unfold Room
      have h1 : R * 1 ≤ R * F := Int.mul_le_mul_of_nonneg_left hF (by omega)
      have h2 : 1 * F ≤ R * F := Int.mul_le_mul_of_nonneg_right hR (by omega)
      have h3 : R * F * 1 ≤ R * F * d := Int.mul_le_mul_of_nonneg_left hd (Int.mul_nonneg (by omega) (by omega))
      have e1 : 2 * R * F * d = 2 * (R * F * d) := by rw [Int.mul_assoc 2, Int.mul_assoc 2]
      rw [e1]
      omega
/-- The numbers of a curve stay small. -/
structure CurveB (d R F t : Int) : Prop where
  T0 : 1 ≤ t * t
  T1 : t * t ≤ 67108864
  k0 : 0 ≤ kP d R F t
  k1 : kP d R F t ≤ 562949953421312
  rf0 : 1 ≤ 2 * R * F
  rf1 : 2 * R * F ≤ 536870912
  w0 : 1 ≤ 2 * R * F * t
  w1 : 2 * R * F * t ≤ 4398046511104
  a0 : 1 ≤ 2 * F * (t * t)
  a1 : 2 * F * (t * t) ≤ 2199023255552
  b0 : 1 ≤ 2 * R * (t * t)
  b1 : 2 * R * (t * t) ≤ 2199023255552
  c0 : 0 ≤ 2 * R * d
  c1 : 2 * R * d ≤ 34359738368
  e0 : 0 ≤ 2 * F * d
  e1 : 2 * F * d ≤ 34359738368
theorem curve_b {d V R F t : Int} (d1 : 1 ≤ d) (d2 : d ≤ 1048576) (R0 : 1 ≤ R) (R1 : R ≤ 16384) (F0 : 1 ≤ F) (F1 : F ≤ 16384) (V0 : 1 ≤ V) (V1 : V ≤ 8192) (h : IsTop d V R F t) : CurveB d R F t := by
  have t0 := top_pos d1 R0 F0 V0 h
  obtain ⟨_, t1, t2, _⟩ := h
  unfold Room at t2
  have T0 : 1 * 1 ≤ t * t := Int.mul_le_mul t0 t0 (by decide) (by omega)
  have T1 : t * t ≤ 8192 * 8192 := Int.mul_le_mul (by omega) (by omega) (by omega) (by decide)
  have S0 : 1 * 1 ≤ t * t * (R + F) := Int.mul_le_mul (by omega) (by omega) (by decide) (by omega)
  have r0 : 1 * 1 ≤ 2 * R * F := Int.mul_le_mul (by omega) F0 (by decide) (by omega)
  have r1 : 2 * R * F ≤ 32768 * 16384 := Int.mul_le_mul (by omega) F1 (by omega) (by decide)
  have q1 : 2 * R * F * d ≤ 536870912 * 1048576 := Int.mul_le_mul (by omega) d2 (by omega) (by decide)
  have u0 : 1 * 1 ≤ 2 * R * F * t := Int.mul_le_mul (by omega) t0 (by decide) (by omega)
  have u1 : 2 * R * F * t ≤ 536870912 * 8192 := Int.mul_le_mul (by omega) (by omega) (by omega) (by decide)
  have v0 : 1 * 1 ≤ 2 * F * (t * t) := Int.mul_le_mul (by omega) (by omega) (by decide) (by omega)
  have v1 : 2 * F * (t * t) ≤ 32768 * 67108864 := Int.mul_le_mul (by omega) (by omega) (by omega) (by decide)
  have x0 : 1 * 1 ≤ 2 * R * (t * t) := Int.mul_le_mul (by omega) (by omega) (by decide) (by omega)
  have x1 : 2 * R * (t * t) ≤ 32768 * 67108864 := Int.mul_le_mul (by omega) (by omega) (by omega) (by decide)
  have y0 := Int.mul_nonneg (show 0 ≤ 2 * R by omega) (show 0 ≤ d by omega)
  have y1 : 2 * R * d ≤ 32768 * 1048576 := Int.mul_le_mul (by omega) d2 (by omega) (by decide)
  have z0 := Int.mul_nonneg (show 0 ≤ 2 * F by omega) (show 0 ≤ d by omega)
  have z1 : 2 * F * d ≤ 32768 * 1048576 := Int.mul_le_mul (by omega) d2 (by omega) (by decide)
  exact ⟨by omega, by omega, by unfold kP; omega, by unfold kP; omega, by omega, by omega, by omega, by omega, by omega, by omega, by omega, by omega, y0, by omega, z0, by omega⟩
theorem cross1 (d R t : Int) : (d * (2 * R) + -(t * t) * 1) * (2 * R) = (2 * R * d - t * t) * (1 * (2 * R)) := by
  rw [Int.one_mul, Int.mul_one, Int.mul_comm d (2 * R)]; rfl
theorem cross2 (d R F t : Int) : ((2 * R * d - t * t) * (2 * F) + -(t * t) * (2 * R)) * (2 * R * F) = kP d R F t * (2 * R * (2 * F)) := by
  unfold kP
  grind
theorem cross3 (d R F t : Int) : kP d R F t * 1 * (2 * R * F * t) = kP d R F t * (2 * R * F * t) := by rw [Int.mul_one]
theorem cross4 (d R F t : Int) : (t * (2 * R * F * t) + kP d R F t * R) * (2 * R * F * t) = (2 * F * (t * t) + kP d R F t) * (R * (2 * R * F * t)) := by
  generalize kP d R F t = k
  grind
theorem cross5 (d R F t : Int) : ((2 * F * (t * t) + kP d R F t) * F + t * (2 * R * F * t)) * (2 * R * F * t) = (2 * F * (t * t) + kP d R F t + 2 * R * (t * t)) * (2 * R * F * t * F) := by
  generalize kP d R F t = k
  grind
theorem cross6 (d F t : Int) : (d * (2 * F) + -(t * t) * 1) * (2 * F) = (2 * F * d - t * t) * (1 * (2 * F)) := by
  rw [Int.one_mul, Int.mul_one, Int.mul_comm d (2 * F)]; rfl

theorem valid_low {n d : Int} (hd : 0 < d) (h1 : -1152921504606846976 ≤ n) (h2 : n ≤ 1152921504606846976) (h3 : d ≤ 1152921504606846976) : validF (lowN n d) (lowD n d) = true := by
  have a := lowN_le n d
  have b := lowD_le (n := n) hd
  have c := lowD_pos (n := n) hd
  exact (validF_iff _ _).2 ⟨by omega, by omega, by omega, by omega, low_cop hd⟩
theorem gives_make {n d : Int} (hn : ¬ n = 0) (hd : 0 < d) (h1 : -1152921504606846976 ≤ n) (h2 : n ≤ 1152921504606846976) (h3 : d ≤ 1152921504606846976) : Gives 35 #[.int .i64 n, .int .i64 d] (lowN n d) (lowD n d) := fun w => by
  have h := make_any n d hn (by omega) (by omega) (by omega) (by omega) w
  rw [make_low hd, fit_low hd h1 h2 h3] at h
  exact h
/-- The sum that the program reckons is below the sum of the products. -/
theorem sum_le {an ad bn bd n1 d1 n2 d2 : Int} (ha : 0 < ad) (hb : 0 < bd) (h1 : an.natAbs ≤ n1.natAbs) (h2 : ad ≤ d1) (h3 : bn.natAbs ≤ n2.natAbs) (h4 : bd ≤ d2) (h : (n1.natAbs : Int) * d2 + (n2.natAbs : Int) * d1 < 18446744073709551616) :
    (an.natAbs : Int) * (bd / (Int.gcd ad bd : Int)) + (bn.natAbs : Int) * (ad / (Int.gcd ad bd : Int)) < 18446744073709551616 := by
  have g := gcd_posR (n := ad) hb
  have e1 : bd / (Int.gcd ad bd : Int) ≤ d2 := Int.le_trans (Int.ediv_le_self _ (by omega)) h4
  have e2 : ad / (Int.gcd ad bd : Int) ≤ d1 := Int.le_trans (Int.ediv_le_self _ (by omega)) h2
  have p1 : 0 ≤ bd / (Int.gcd ad bd : Int) := Int.ediv_nonneg (by omega) (by omega)
  have p2 : 0 ≤ ad / (Int.gcd ad bd : Int) := Int.ediv_nonneg (by omega) (by omega)
  have q1 : (an.natAbs : Int) * (bd / (Int.gcd ad bd : Int)) ≤ (n1.natAbs : Int) * d2 := Int.mul_le_mul (by omega) e1 p1 (by omega)
  have q2 : (bn.natAbs : Int) * (ad / (Int.gcd ad bd : Int)) ≤ (n2.natAbs : Int) * d1 := Int.mul_le_mul (by omega) e2 p2 (by omega)
  omega
theorem gives_add {n1 d1 n2 d2 N D : Int} (h1 : 0 < d1) (h2 : 0 < d2) (hD : 0 < D) (hc : (n1 * d2 + n2 * d1) * D = N * (d1 * d2)) (b1 : -1152921504606846976 ≤ N) (b2 : N ≤ 1152921504606846976) (b3 : D ≤ 1152921504606846976)
    (c1 : -1152921504606846976 ≤ n1) (c2 : n1 ≤ 1152921504606846976) (c3 : d1 ≤ 1152921504606846976) (c4 : -1152921504606846976 ≤ n2) (c5 : n2 ≤ 1152921504606846976) (c6 : d2 ≤ 1152921504606846976)
    (hs : (n1.natAbs : Int) * d2 + (n2.natAbs : Int) * d1 < 18446744073709551616) (hd : d1 * d2 < 18446744073709551616) :
    Gives 32 #[.agg #[.int .i64 (lowN n1 d1), .int .i64 (lowD n1 d1)], .agg #[.int .i64 (lowN n2 d2), .int .i64 (lowD n2 d2)]] (lowN N D) (lowD N D) := fun w => by
  have p1 := lowD_pos (n := n1) h1
  have p2 := lowD_pos (n := n2) h2
  have l1 := lowD_le (n := n1) h1
  have l2 := lowD_le (n := n2) h2
  have h := add_any (lowN n1 d1) (lowD n1 d1) (lowN n2 d2) (lowD n2 d2) (valid_low h1 c1 c2 c3) (valid_low h2 c4 c5 c6) (sum_le p1 p2 (lowN_le _ _) l1 (lowN_le _ _) l2 hs)
    (by have := Int.mul_le_mul l1 l2 (by omega) (by omega); omega) w
  rw [addP_low h1 h2 hD hc b1 b2 b3] at h
  exact h
theorem gives_sub {n1 d1 n2 d2 N D : Int} (h1 : 0 < d1) (h2 : 0 < d2) (hD : 0 < D) (hc : (n1 * d2 + -n2 * d1) * D = N * (d1 * d2)) (b1 : -1152921504606846976 ≤ N) (b2 : N ≤ 1152921504606846976) (b3 : D ≤ 1152921504606846976)
    (c1 : -1152921504606846976 ≤ n1) (c2 : n1 ≤ 1152921504606846976) (c3 : d1 ≤ 1152921504606846976) (c4 : -1152921504606846976 ≤ n2) (c5 : n2 ≤ 1152921504606846976) (c6 : d2 ≤ 1152921504606846976)
    (hs : (n1.natAbs : Int) * d2 + (n2.natAbs : Int) * d1 < 18446744073709551616) (hd : d1 * d2 < 18446744073709551616) :
    Gives 49 #[.agg #[.int .i64 (lowN n1 d1), .int .i64 (lowD n1 d1)], .agg #[.int .i64 (lowN n2 d2), .int .i64 (lowD n2 d2)]] (lowN N D) (lowD N D) := fun w => by
  have p1 := lowD_pos (n := n1) h1
  have p2 := lowD_pos (n := n2) h2
  have l1 := lowD_le (n := n1) h1
  have l2 := lowD_le (n := n2) h2
  have h := sub_any (lowN n1 d1) (lowD n1 d1) (lowN n2 d2) (lowD n2 d2) (valid_low h1 c1 c2 c3) (valid_low h2 c4 c5 c6) (sum_le p1 p2 (lowN_le _ _) l1 (lowN_le _ _) l2 hs)
    (by have := Int.mul_le_mul l1 l2 (by omega) (by omega); omega) w
  rw [← lowN_neg, show lowD n2 d2 = lowD (-n2) d2 from (lowD_neg _ _).symm, addP_low h1 h2 hD hc b1 b2 b3] at h
  rw [show lowD n2 d2 = lowD (-n2) d2 from (lowD_neg _ _).symm]
  exact h
theorem gives_div {n1 d1 t : Int} (h1 : 0 < d1) (ht : 1 ≤ t) (ht2 : t ≤ 8192) (b1 : -1152921504606846976 ≤ n1) (b2 : n1 ≤ 1152921504606846976) (b3 : d1 * t ≤ 1152921504606846976) (c3 : d1 ≤ 1152921504606846976) :
    Gives 50 #[.agg #[.int .i64 (lowN n1 d1), .int .i64 (lowD n1 d1)], .agg #[.int .i64 t, .int .i64 1]] (lowN n1 (d1 * t)) (lowD n1 (d1 * t)) := fun w => by
  have hv : validF t 1 = true := (validF_iff _ _).2 ⟨by omega, by omega, by omega, by omega, by simp⟩
  have h := divP_any (lowN n1 d1) (lowD n1 d1) t 1 (valid_low h1 b1 b2 c3) hv (by omega) w
  have e := low_self (p := 1) (q := t) (by simp)
  have h2 : mulP (lowN n1 d1) (lowD n1 d1) 1 t = (lowN n1 (d1 * t), lowD n1 (d1 * t), 0) := by
    have h3 := mulP_low (n1 := n1) (d1 := d1) (n2 := 1) (d2 := t) (N := n1) (D := d1 * t) h1 (by omega) (Int.mul_pos h1 (by omega)) (by rw [Int.mul_one]) b1 b2 b3
    rw [e.1, e.2] at h3
    exact h3
  rw [h2] at h
  exact h
theorem abs_le {n : Int} {b : Int} (h1 : 0 ≤ n) (h2 : n ≤ b) : (n.natAbs : Int) ≤ b := by omega

set_option maxHeartbeats 4000000 in
theorem curve_any (d : Int) (m : Mv) (t : Int) (hg : givenP d m = 0) (hd0 : ¬ d = 0) (ht : IsTop d m.spd m.rise m.fall t) (w : World) :
    Calls Try.prog 16 #[.int .i64 d, .agg #[.string m.name, .int .i64 m.to, .int .i64 m.spd, .int .i64 m.rise, .int .i64 m.fall]] w fun e w' => Hid (∃ v, e = .returned (.tuple #[v, .int .i64 0]) ∧ w'.ownsRow w.heap.size 70 8 v (curveL d m.rise m.fall t).length (pcflat (curveL d m.rise m.fall t))) ∧ Below w.heap.size w w' := by
  obtain ⟨hv, hd⟩ := given_ok hg
  obtain ⟨V0, V1, R0, R1, F0, F1⟩ := valid_bds hv
  obtain ⟨d1, d2⟩ := inB_iff.1 hd
  have t0 := top_pos (by omega) R0 F0 V0 ht
  have t1 : t ≤ 8192 := by have := ht.2.1; omega
  have B := curve_b (by omega) d2 R0 R1 F0 F1 V0 V1 ht
  obtain ⟨T0, T1, k0, k1, rf0, rf1, w0, w1, a0, a1, b0, b1, c0, c1, e0, e1⟩ := B
  have o1 := low_one d
  have o2 := low_one t
  refine curve_walk d m t (t * t) (2 * m.rise) (2 * m.fall) (lowN (t * t) (2 * m.rise)) (lowD (t * t) (2 * m.rise)) (lowN (t * t) (2 * m.fall)) (lowD (t * t) (2 * m.fall)) (lowN t m.rise) (lowD t m.rise)
    (lowN (2 * m.rise * d - t * t) (2 * m.rise)) (lowD (2 * m.rise * d - t * t) (2 * m.rise)) (lowN (kP d m.rise m.fall t) (2 * m.rise * m.fall)) (lowD (kP d m.rise m.fall t) (2 * m.rise * m.fall))
    (lowN (kP d m.rise m.fall t) (2 * m.rise * m.fall * t)) (lowD (kP d m.rise m.fall t) (2 * m.rise * m.fall * t))
    (lowN (2 * m.fall * (t * t) + kP d m.rise m.fall t) (2 * m.rise * m.fall * t)) (lowD (2 * m.fall * (t * t) + kP d m.rise m.fall t) (2 * m.rise * m.fall * t))
    (lowN t m.fall) (lowD t m.fall)
    (lowN (2 * m.fall * (t * t) + kP d m.rise m.fall t + 2 * m.rise * (t * t)) (2 * m.rise * m.fall * t)) (lowD (2 * m.fall * (t * t) + kP d m.rise m.fall t + 2 * m.rise * (t * t)) (2 * m.rise * m.fall * t))
    (lowN m.rise 2) (lowD m.rise 2) (lowN (2 * m.fall * d - t * t) (2 * m.fall)) (lowD (2 * m.fall * d - t * t) (2 * m.fall)) (lowN (-m.fall) 2) (lowD (-m.fall) 2)
    hg hd0 ht (IntWalk.i64_in _ (by omega)) (IntWalk.i64_in _ (by omega)) (IntWalk.i64_in _ (by omega)) (IntWalk.i64_in _ (by omega))
    (gives_make (by omega) (by omega) (by omega) (by omega) (by omega)) (gives_make (by omega) (by omega) (by omega) (by omega) (by omega)) (gives_make (by omega) (by omega) (by omega) (by omega) (by omega))
    (gives_make (by omega) (by omega) (by omega) (by omega) (by omega)) (gives_make (by omega) (by omega) (by omega) (by omega) (by omega)) (gives_make (by omega) (by omega) (by omega) (by omega) (by omega))
    ?_ ?_ ?_ ?_ ?_ ?_ _ ?_ w
  · have h := gives_sub (n1 := d) (d1 := 1) (n2 := t * t) (d2 := 2 * m.rise) (N := 2 * m.rise * d - t * t) (D := 2 * m.rise) (by omega) (by omega) (by omega) (cross1 d m.rise t) (by omega) (by omega) (by omega) (by omega) (by omega) (by omega) (by omega) (by omega) (by omega)
      (by have := Int.mul_le_mul (abs_le (by omega) d2) (show 2 * m.rise ≤ 32768 by omega) (by omega) (by decide); have := abs_le (n := t * t) (by omega) T1; omega) (by omega)
    rw [o1.1, o1.2] at h
    exact h
  · exact gives_sub (n1 := 2 * m.rise * d - t * t) (d1 := 2 * m.rise) (n2 := t * t) (d2 := 2 * m.fall) (N := kP d m.rise m.fall t) (D := 2 * m.rise * m.fall) (by omega) (by omega) (by omega) (cross2 d m.rise m.fall t) (by omega) (by omega) (by omega) (by omega) (by omega) (by omega) (by omega) (by omega) (by omega)
      (by have := Int.mul_le_mul (show ((2 * m.rise * d - t * t).natAbs : Int) ≤ 34359738368 by omega) (show 2 * m.fall ≤ 32768 by omega) (by omega) (by decide); have := Int.mul_le_mul (abs_le (n := t * t) (by omega) T1) (show 2 * m.rise ≤ 32768 by omega) (by omega) (by decide); omega)
      (by have := Int.mul_le_mul (show 2 * m.rise ≤ 32768 by omega) (show 2 * m.fall ≤ 32768 by omega) (by omega) (by decide); omega)
  · have h := gives_sub (n1 := d) (d1 := 1) (n2 := t * t) (d2 := 2 * m.fall) (N := 2 * m.fall * d - t * t) (D := 2 * m.fall) (by omega) (by omega) (by omega) (cross6 d m.fall t) (by omega) (by omega) (by omega) (by omega) (by omega) (by omega) (by omega) (by omega) (by omega)
      (by have := Int.mul_le_mul (abs_le (by omega) d2) (show 2 * m.fall ≤ 32768 by omega) (by omega) (by decide); have := abs_le (n := t * t) (by omega) T1; omega) (by omega)
    rw [o1.1, o1.2] at h
    exact h
  · exact gives_div (by omega) t0 t1 (by omega) (by omega) (by omega) (by omega)
  · exact gives_add (n1 := t) (d1 := m.rise) (n2 := kP d m.rise m.fall t) (d2 := 2 * m.rise * m.fall * t) (N := 2 * m.fall * (t * t) + kP d m.rise m.fall t) (D := 2 * m.rise * m.fall * t) (by omega) (by omega) (by omega) (cross4 d m.rise m.fall t) (by omega) (by omega) (by omega) (by omega) (by omega) (by omega) (by omega) (by omega) (by omega)
      (by have := Int.mul_le_mul (abs_le (n := t) (by omega) t1) w1 (by omega) (by decide); have := Int.mul_le_mul (abs_le k0 k1) R1 (by omega) (by decide); omega)
      (by have := Int.mul_le_mul R1 w1 (by omega) (by decide); omega)
  · exact gives_add (n1 := 2 * m.fall * (t * t) + kP d m.rise m.fall t) (d1 := 2 * m.rise * m.fall * t) (n2 := t) (d2 := m.fall) (N := 2 * m.fall * (t * t) + kP d m.rise m.fall t + 2 * m.rise * (t * t)) (D := 2 * m.rise * m.fall * t) (by omega) (by omega) (by omega) (cross5 d m.rise m.fall t) (by omega) (by omega) (by omega) (by omega) (by omega) (by omega) (by omega) (by omega) (by omega)
      (by have := Int.mul_le_mul (abs_le (n := 2 * m.fall * (t * t) + kP d m.rise m.fall t) (b := 565148976676864) (by omega) (by omega)) F1 (by omega) (by decide); have := Int.mul_le_mul (abs_le (n := t) (by omega) t1) w1 (by omega) (by decide); omega)
      (by have := Int.mul_le_mul w1 F1 (by omega) (by decide); omega)
  · unfold curveL
    rw [if_neg hd0]
    have hk : (lowN (kP d m.rise m.fall t) (2 * m.rise * m.fall) = 0) = (kP d m.rise m.fall t = 0) := by
      refine propext ⟨lowN_zero, fun e => ?_⟩
      rw [e]
      exact (low_zero (by omega)).1
    simp only [hk]
end Go.Proofs.Ytlgpolfbilkmbaa
