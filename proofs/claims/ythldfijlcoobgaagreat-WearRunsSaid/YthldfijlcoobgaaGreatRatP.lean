/-
  PLAIN: fractions in lowest terms; the sum and the product as the program reckons them.
-/
import Derived.Test.YthldfijlcoobgaaGreatRows
namespace Go.Proofs.YthldfijlcoobgaaGreat

/-- The lowest terms of n / d. -/
def lowN (n d : Int) : Int := n / (Int.gcd n d : Int)
def lowD (n d : Int) : Int := d / (Int.gcd n d : Int)

theorem gcd_posR {n d : Int} (hd : 0 < d) : (0 : Int) < (Int.gcd n d : Int) := by
  have := Int.gcd_pos_of_ne_zero_right n (b := d) (by omega)
  omega
theorem lowN_mul (n d : Int) : lowN n d * (Int.gcd n d : Int) = n := Int.ediv_mul_cancel (Int.gcd_dvd_left n d)
theorem lowD_mul (n d : Int) : lowD n d * (Int.gcd n d : Int) = d := Int.ediv_mul_cancel (Int.gcd_dvd_right n d)
theorem lowD_pos {n d : Int} (hd : 0 < d) : 0 < lowD n d := by
  have h := lowD_mul n d
  have g := gcd_posR (n := n) hd
  rcases Int.lt_or_le 0 (lowD n d) with l | l
  · exact l
  · have := Int.mul_le_mul_of_nonneg_right l (Int.le_of_lt g)
    omega
theorem low_cop {n d : Int} (hd : 0 < d) : Int.gcd (lowN n d) (lowD n d) = 1 :=
  Int.gcd_ediv_gcd_ediv_gcd (by have := gcd_posR (n := n) hd; omega)
theorem low_cross (n d : Int) : lowN n d * d = n * lowD n d := by
  have a := lowN_mul n d
  have b := lowD_mul n d
  calc lowN n d * d = lowN n d * (lowD n d * (Int.gcd n d : Int)) := by rw [b]
    _ = (lowN n d * (Int.gcd n d : Int)) * lowD n d := by rw [Int.mul_comm (lowD n d), Int.mul_assoc]
    _ = n * lowD n d := by rw [a]
/-- Two fractions in lowest terms with one value are the same. -/
theorem low_unique {p q p' q' : Int} (hq : 0 < q) (hq' : 0 < q') (c : Int.gcd p q = 1) (c' : Int.gcd p' q' = 1) (h : p * q' = p' * q) : p = p' ∧ q = q' := by
  have d1 : q ∣ q' := by
    have : q ∣ p * q' := ⟨p', by rw [h, Int.mul_comm]⟩
    rw [Int.gcd_comm] at c
    rw [← Int.gcd_eq_natAbs_left_iff_dvd, Int.gcd_mul_right_right_of_gcd_eq_one c] at this
    exact Int.gcd_eq_natAbs_left_iff_dvd.1 this
  have d2 : q' ∣ q := by
    have : q' ∣ p' * q := ⟨p, by rw [← h, Int.mul_comm]⟩
    rw [Int.gcd_comm] at c'
    rw [← Int.gcd_eq_natAbs_left_iff_dvd, Int.gcd_mul_right_right_of_gcd_eq_one c'] at this
    exact Int.gcd_eq_natAbs_left_iff_dvd.1 this
  have e : q = q' := Int.dvd_antisymm (by omega) (by omega) d1 d2
  subst e
  exact ⟨Int.eq_of_mul_eq_mul_right (by omega) h, rfl⟩
theorem low_eq {n d p q : Int} (hd : 0 < d) (hq : 0 < q) (c : Int.gcd p q = 1) (h : p * d = n * q) : p = lowN n d ∧ q = lowD n d := by
  refine low_unique hq (lowD_pos hd) c (low_cop hd) ?_
  have x := low_cross n d
  have hdz : d ≠ 0 := by omega
  refine Int.eq_of_mul_eq_mul_right hdz ?_
  calc p * lowD n d * d = (p * d) * lowD n d := by rw [Int.mul_assoc, Int.mul_comm (lowD n d), ← Int.mul_assoc]
    _ = (n * q) * lowD n d := by rw [h]
    _ = (n * lowD n d) * q := by rw [Int.mul_assoc, Int.mul_comm q, ← Int.mul_assoc]
    _ = (lowN n d * d) * q := by rw [x]
    _ = lowN n d * q * d := by rw [Int.mul_assoc, Int.mul_comm d, ← Int.mul_assoc]
theorem low_same {n d n' d' : Int} (hd : 0 < d) (hd' : 0 < d') (h : n * d' = n' * d) : lowN n d = lowN n' d' ∧ lowD n d = lowD n' d' := by
  refine low_eq hd' (lowD_pos hd) (low_cop hd) ?_
  have x := low_cross n d
  have hdz : d ≠ 0 := by omega
  refine Int.eq_of_mul_eq_mul_right hdz ?_
  calc lowN n d * d' * d = (lowN n d * d) * d' := by rw [Int.mul_assoc, Int.mul_comm d', ← Int.mul_assoc]
    _ = (n * lowD n d) * d' := by rw [x]
    _ = (n * d') * lowD n d := by rw [Int.mul_assoc, Int.mul_comm (lowD n d), ← Int.mul_assoc]
    _ = (n' * d) * lowD n d := by rw [h]
    _ = n' * lowD n d * d := by rw [Int.mul_assoc, Int.mul_comm d, ← Int.mul_assoc]
theorem low_self {p q : Int} (c : Int.gcd p q = 1) : lowN p q = p ∧ lowD p q = q := by
  unfold lowN lowD; rw [c]; simp
theorem low_zero {d : Int} (hd : 0 < d) : lowN 0 d = 0 ∧ lowD 0 d = 1 := by
  obtain ⟨a, b⟩ := low_eq (n := 0) (d := d) (p := 0) (q := 1) hd (by decide) (by decide) (by simp)
  exact ⟨a.symm, b.symm⟩
theorem lowN_zero {n d : Int} : lowN n d = 0 → n = 0 := fun h => by
  have := lowN_mul n d
  rw [h] at this
  simpa using this.symm
theorem natAbs_ediv (n g : Int) (h : g ∣ n) : (n / g).natAbs = n.natAbs / g.natAbs := Int.natAbs_ediv_of_dvd h
theorem lowN_abs (n d : Int) : (lowN n d).natAbs = n.natAbs / Int.gcd n d := by
  unfold lowN
  rw [Int.natAbs_ediv_of_dvd (Int.gcd_dvd_left n d)]
  rfl
theorem lowD_abs (n d : Int) : (lowD n d).natAbs = d.natAbs / Int.gcd n d := by
  unfold lowD
  rw [Int.natAbs_ediv_of_dvd (Int.gcd_dvd_right n d)]
  rfl
theorem lowN_le (n d : Int) : (lowN n d).natAbs ≤ n.natAbs := by rw [lowN_abs]; exact Nat.div_le_self _ _
theorem lowD_le {n d : Int} (hd : 0 < d) : lowD n d ≤ d := by
  have h := lowD_abs n d
  have := Nat.div_le_self d.natAbs (Int.gcd n d)
  have := lowD_pos (n := n) hd
  omega
theorem lowN_neg (n d : Int) : lowN (-n) d = -lowN n d := by
  unfold lowN
  rw [Int.neg_gcd]
  rw [Int.neg_ediv_of_dvd (Int.gcd_dvd_left n d)]
theorem lowD_neg (n d : Int) : lowD (-n) d = lowD n d := by unfold lowD; rw [Int.neg_gcd]
theorem low_sign {n d : Int} (hd : 0 < d) : (lowN n d < 0 ↔ n < 0) := by
  have g := gcd_posR (n := n) hd
  have h := lowN_mul n d
  constructor
  · intro l
    have := Int.mul_neg_of_neg_of_pos l g
    omega
  · intro l
    rcases Int.lt_or_le (lowN n d) 0 with k | k
    · exact k
    · have := Int.mul_nonneg k (Int.le_of_lt g)
      omega

/-- KNUTH'S SUM: what the program reckons is the sum in lowest terms. -/
theorem sum_low {an ad bn bd : Int} (ha : 0 < ad) (hb : 0 < bd) (ca : Int.gcd an ad = 1) (cb : Int.gcd bn bd = 1) (g : Int) (hg : g = (Int.gcd ad bd : Int)) (S c : Int) (hS : S = an * (bd / g) + bn * (ad / g)) (hc : c = (Int.gcd g S : Int)) :
    S / c = lowN (an * bd + bn * ad) (ad * bd) ∧ (ad / g) * (bd / c) = lowD (an * bd + bn * ad) (ad * bd) := by
  have gp : 0 < g := by rw [hg]; exact gcd_posR hb
  obtain ⟨a', ea⟩ : g ∣ ad := by rw [hg]; exact Int.gcd_dvd_left ad bd
  obtain ⟨b', eb⟩ : g ∣ bd := by rw [hg]; exact Int.gcd_dvd_right ad bd
  have cab : Int.gcd a' b' = 1 := by
    have h1 : Int.gcd (g * a') (g * b') = g.natAbs * Int.gcd a' b' := Int.gcd_mul_left ..
    rw [← ea, ← eb] at h1
    have h2 : g.natAbs = Int.gcd ad bd := by rw [hg]; rfl
    have h3 : 0 < Int.gcd ad bd := by omega
    rw [h2] at h1
    exact (Nat.eq_of_mul_eq_mul_left h3 (by omega)).symm
  have ea2 : ad / g = a' := by rw [ea]; exact Int.mul_ediv_cancel_left _ (by omega)
  have eb2 : bd / g = b' := by rw [eb]; exact Int.mul_ediv_cancel_left _ (by omega)
  rw [ea2, eb2] at hS
  have a'p : 0 < a' := by
    rcases Int.lt_or_le 0 a' with l | l
    · exact l
    · have := Int.mul_le_mul_of_nonneg_left l (Int.le_of_lt gp); omega
  have b'p : 0 < b' := by
    rcases Int.lt_or_le 0 b' with l | l
    · exact l
    · have := Int.mul_le_mul_of_nonneg_left l (Int.le_of_lt gp); omega
  have cop_of : ∀ {x y k : Int}, Int.gcd x (k * y) = 1 → Int.gcd x y = 1 := fun {x y k} h => by
    have := Int.gcd_dvd_gcd_mul_left_right x y k
    rw [h] at this
    exact Nat.dvd_one.1 this
  have sa : Int.gcd S a' = 1 := by
    rw [hS, Int.gcd_add_mul_right_left]
    rw [Int.gcd_mul_right_left_of_gcd_eq_one]
    · rw [Int.gcd_comm]; exact cab
    · rw [ea] at ca; exact cop_of ca
  have sb : Int.gcd S b' = 1 := by
    rw [hS, Int.add_comm, Int.gcd_add_mul_right_left]
    rw [Int.gcd_mul_right_left_of_gcd_eq_one]
    · exact cab
    · rw [eb] at cb; exact cop_of cb
  have cp : 0 < c := by rw [hc]; have := Int.gcd_pos_of_ne_zero_left (a := g) S (by omega); omega
  obtain ⟨s', es⟩ : c ∣ S := by rw [hc]; exact Int.gcd_dvd_right g S
  obtain ⟨g', eg⟩ : c ∣ g := by rw [hc]; exact Int.gcd_dvd_left g S
  have g'p : 0 < g' := by
    rcases Int.lt_or_le 0 g' with l | l
    · exact l
    · have := Int.mul_le_mul_of_nonneg_left l (Int.le_of_lt cp); omega
  have csg : Int.gcd g' s' = 1 := by
    have h1 : Int.gcd (c * g') (c * s') = c.natAbs * Int.gcd g' s' := Int.gcd_mul_left ..
    rw [← es, ← eg] at h1
    have h2 : c.natAbs = Int.gcd g S := by rw [hc]; rfl
    have h3 : 0 < Int.gcd g S := by omega
    rw [h2] at h1
    exact (Nat.eq_of_mul_eq_mul_left h3 (by omega)).symm
  have e1 : S / c = s' := by rw [es]; exact Int.mul_ediv_cancel_left _ (by omega)
  have e2 : bd / c = g' * b' := by rw [eb, eg, Int.mul_assoc]; exact Int.mul_ediv_cancel_left _ (by omega)
  rw [e1, e2, ea2]
  have hs'a : Int.gcd s' a' = 1 := by
    have := Int.gcd_dvd_gcd_mul_left_left s' a' c
    rw [← es, sa] at this
    exact Nat.dvd_one.1 this
  have hs'b : Int.gcd s' b' = 1 := by
    have := Int.gcd_dvd_gcd_mul_left_left s' b' c
    rw [← es, sb] at this
    exact Nat.dvd_one.1 this
  have cop : Int.gcd s' (a' * (g' * b')) = 1 := by
    rw [Int.gcd_mul_right_right_of_gcd_eq_one hs'a, Int.gcd_mul_right_right_of_gcd_eq_one (by rw [Int.gcd_comm]; exact csg)]
    exact hs'b
  refine low_eq (Int.mul_pos ha hb) (Int.mul_pos a'p (Int.mul_pos g'p b'p)) cop ?_
  have hS2 : c * s' = an * b' + bn * a' := by rw [← es, hS]
  subst hS
  rw [ea, eb]
  have eg' := eg
  calc s' * (g * a' * (g * b')) = s' * ((c * g') * a' * (g * b')) := by rw [← eg]
    _ = (c * s') * (g * (a' * (g' * b'))) := by ac_rfl
    _ = (an * b' + bn * a') * (g * (a' * (g' * b'))) := by rw [hS2]
    _ = (an * (g * b') + bn * (g * a')) * (a' * (g' * b')) := by
      rw [← Int.mul_assoc (an * b' + bn * a') g]
      congr 1
      rw [Int.add_mul]
      congr 1 <;> ac_rfl

/-- THE PRODUCT in lowest terms. -/
theorem mul_low {an ad bn bd : Int} (ha : 0 < ad) (hb : 0 < bd) (ca : Int.gcd an ad = 1) (cb : Int.gcd bn bd = 1) (g h : Int) (hg : g = (Int.gcd an bd : Int)) (hh : h = (Int.gcd bn ad : Int)) :
    (an / g) * (bn / h) = lowN (an * bn) (ad * bd) ∧ (ad / h) * (bd / g) = lowD (an * bn) (ad * bd) := by
  have gp : 0 < g := by rw [hg]; exact gcd_posR hb
  have hp : 0 < h := by rw [hh]; exact gcd_posR ha
  obtain ⟨n1, e1⟩ : g ∣ an := by rw [hg]; exact Int.gcd_dvd_left an bd
  obtain ⟨d2, e2⟩ : g ∣ bd := by rw [hg]; exact Int.gcd_dvd_right an bd
  obtain ⟨n2, e3⟩ : h ∣ bn := by rw [hh]; exact Int.gcd_dvd_left bn ad
  obtain ⟨d1, e4⟩ : h ∣ ad := by rw [hh]; exact Int.gcd_dvd_right bn ad
  have q1 : an / g = n1 := by rw [e1]; exact Int.mul_ediv_cancel_left _ (by omega)
  have q2 : bd / g = d2 := by rw [e2]; exact Int.mul_ediv_cancel_left _ (by omega)
  have q3 : bn / h = n2 := by rw [e3]; exact Int.mul_ediv_cancel_left _ (by omega)
  have q4 : ad / h = d1 := by rw [e4]; exact Int.mul_ediv_cancel_left _ (by omega)
  have c12 : Int.gcd n1 d2 = 1 := by
    have h1 : Int.gcd (g * n1) (g * d2) = g.natAbs * Int.gcd n1 d2 := Int.gcd_mul_left ..
    rw [← e1, ← e2] at h1
    have h2 : g.natAbs = Int.gcd an bd := by rw [hg]; rfl
    have h3 : 0 < Int.gcd an bd := by omega
    rw [h2] at h1
    exact (Nat.eq_of_mul_eq_mul_left h3 (by omega)).symm
  have c21 : Int.gcd n2 d1 = 1 := by
    have h1 : Int.gcd (h * n2) (h * d1) = h.natAbs * Int.gcd n2 d1 := Int.gcd_mul_left ..
    rw [← e3, ← e4] at h1
    have h2 : h.natAbs = Int.gcd bn ad := by rw [hh]; rfl
    have h3 : 0 < Int.gcd bn ad := by omega
    rw [h2] at h1
    exact (Nat.eq_of_mul_eq_mul_left h3 (by omega)).symm
  have cop2 : ∀ {x y k l : Int}, Int.gcd (k * x) (l * y) = 1 → Int.gcd x y = 1 := fun {x y k l} e => by
    have u := Int.gcd_dvd_gcd_mul_left_left x y k
    have v := Int.gcd_dvd_gcd_mul_left_right (k * x) y l
    rw [e] at v
    exact Nat.dvd_one.1 (Nat.dvd_trans u v)
  have c11 : Int.gcd n1 d1 = 1 := by rw [e1, e4] at ca; exact cop2 ca
  have c22 : Int.gcd n2 d2 = 1 := by rw [e3, e2] at cb; exact cop2 cb
  rw [q1, q2, q3, q4]
  have p1 : 0 < d1 := by
    rcases Int.lt_or_le 0 d1 with l | l
    · exact l
    · have := Int.mul_le_mul_of_nonneg_left l (Int.le_of_lt hp); omega
  have p2 : 0 < d2 := by
    rcases Int.lt_or_le 0 d2 with l | l
    · exact l
    · have := Int.mul_le_mul_of_nonneg_left l (Int.le_of_lt gp); omega
  refine low_eq (Int.mul_pos ha hb) (Int.mul_pos p1 p2) ?_ ?_
  · rw [Int.gcd_mul_right_left_of_gcd_eq_one]
    · rw [Int.gcd_mul_right_right_of_gcd_eq_one c21]; exact c22
    · rw [Int.gcd_mul_right_right_of_gcd_eq_one c11]; exact c12
  · calc n1 * n2 * (ad * bd) = n1 * n2 * ((h * d1) * (g * d2)) := by rw [← e4, ← e2]
      _ = ((g * n1) * (h * n2)) * (d1 * d2) := by ac_rfl
      _ = an * bn * (d1 * d2) := by rw [← e1, ← e3]
end Go.Proofs.YthldfijlcoobgaaGreat
