/-
  PLAIN: the time of a move as a fraction in lowest terms; how two times compare.
-/
import Derived.Test.YtlgpolfbilkmbaaFasterP
import Derived.Test.YtlgpolfbilkmbaaKnots
import Derived.Test.YtlgpolfbilkmbaaRCmp2
namespace Go.Proofs.Ytlgpolfbilkmbaa

theorem time_num (d R F t : Int) : 2 * F * (t * t) + kP d R F t + 2 * R * (t * t) = tN d R F t := by
  unfold kP tN
  rw [Int.mul_add]
  have e1 : 2 * F * (t * t) = 2 * (t * t * F) := by ac_rfl
  have e2 : 2 * R * (t * t) = 2 * (t * t * R) := by ac_rfl
  rw [e1, e2]
  omega
theorem time_zero {m : Mv} {t : Int} (hg : givenP 0 m = 0) : timeP 0 m t = (0, 1) := by
  unfold timeP
  rw [if_pos hg]
  rfl
theorem time_pos {d : Int} {m : Mv} {t : Int} (hg : givenP d m = 0) (hd : ¬ d = 0) : timeP d m t = (lowN (tN d m.rise m.fall t) (tD m.rise m.fall t), lowD (tN d m.rise m.fall t) (tD m.rise m.fall t)) := by
  have hl := curveL_len d m.rise m.fall t
  unfold timeP
  rw [if_pos hg]
  unfold knotsL
  rw [knTo_len, knTo_at _ _ _ (by omega)]
  unfold curveL
  rw [if_neg hd, time_num]
  split <;> rfl
theorem low_cmp {n1 d1 n2 d2 : Int} (h1 : 0 < d1) (h2 : 0 < d2) (h : n1 * d2 ≤ n2 * d1) : lowN n1 d1 * lowD n2 d2 ≤ lowN n2 d2 * lowD n1 d1 := by
  have a := lowN_mul n1 d1
  have b := lowD_mul n1 d1
  have c := lowN_mul n2 d2
  have e := lowD_mul n2 d2
  have g1 := gcd_posR (n := n1) h1
  have g2 := gcd_posR (n := n2) h2
  refine le_of_mul_pos (Int.mul_pos g1 g2) ?_
  calc lowN n1 d1 * lowD n2 d2 * ((Int.gcd n1 d1 : Int) * (Int.gcd n2 d2 : Int)) = (lowN n1 d1 * (Int.gcd n1 d1 : Int)) * (lowD n2 d2 * (Int.gcd n2 d2 : Int)) := by ac_rfl
    _ = n1 * d2 := by rw [a, e]
    _ ≤ n2 * d1 := h
    _ = (lowN n2 d2 * (Int.gcd n2 d2 : Int)) * (lowD n1 d1 * (Int.gcd n1 d1 : Int)) := by rw [c, b]
    _ = lowN n2 d2 * lowD n1 d1 * ((Int.gcd n1 d1 : Int) * (Int.gcd n2 d2 : Int)) := by ac_rfl
/-- A time's parts are small, and not negative. -/
theorem time_bd {d : Int} {m : Mv} {t : Int} (hg : givenP d m = 0) (ht : IsTop d m.spd m.rise m.fall t) :
    0 ≤ (timeP d m t).1 ∧ (timeP d m t).1 ≤ 1152921504606846976 ∧ 0 < (timeP d m t).2 ∧ (timeP d m t).2 ≤ 1152921504606846976 := by
  by_cases hd : d = 0
  · subst hd
    rw [time_zero hg]
    decide
  · rw [time_pos hg hd]
    obtain ⟨hv, hdd⟩ := given_ok hg
    obtain ⟨V0, V1, R0, R1, F0, F1⟩ := valid_bds hv
    obtain ⟨d1, d2⟩ := inB_iff.1 hdd
    have tp := top_pos (show 1 ≤ d by omega) R0 F0 V0 ht
    have t1 := ht.2.1
    obtain ⟨B1, B2, B3, B4, _, _, _, _, _, B5, B6⟩ := room_bd (d := d) (R := m.rise) (F := m.fall) (w := t) d1 d2 (by omega) R1 (by omega) F1 (by omega) (by omega)
    have B7 : 2 * m.rise * m.fall * d ≤ 536870912 * 1048576 := Int.mul_le_mul B6 d2 d1 (by decide)
    have B8 := Int.mul_nonneg B5 d1
    have B9 : 2 * m.rise * m.fall * t ≤ 536870912 * 8192 := Int.mul_le_mul B6 (by omega) (by omega) (by decide)
    have B10 : 0 < 2 * m.rise * m.fall * t := Int.mul_pos (posD R0 F0) (by omega)
    have n0 : 0 ≤ tN d m.rise m.fall t := by unfold tN; omega
    have n1 : tN d m.rise m.fall t ≤ 1152921504606846976 := by unfold tN; omega
    have q0 : 0 < tD m.rise m.fall t := by unfold tD; omega
    have q1 : tD m.rise m.fall t ≤ 1152921504606846976 := by unfold tD; omega
    have a := lowN_le (tN d m.rise m.fall t) (tD m.rise m.fall t)
    have b := lowD_le (n := tN d m.rise m.fall t) q0
    have c := lowD_pos (n := tN d m.rise m.fall t) q0
    have e := low_sign (n := tN d m.rise m.fall t) q0
    omega
theorem cmp_le {x y : Int} (h : x ≤ y) : decide (cmpP x y ≤ 0) = true := by
  unfold cmpP
  split
  · decide
  · rw [if_pos (by omega)]; decide
theorem cmp_ge {x y : Int} (h : y ≤ x) : decide (0 ≤ cmpP x y) = true := by
  unfold cmpP
  split
  · decide
  · rw [if_neg (by omega)]; decide
/-- Which of a move's numbers is raised. -/
def raised (m : Mv) (c k : Int) : Mv := if c = 0 then ⟨m.name, m.to, m.spd + k, m.rise, m.fall⟩ else if c = 1 then ⟨m.name, m.to, m.spd, m.rise + k, m.fall⟩ else if c = 2 then ⟨m.name, m.to, m.spd, m.rise, m.fall + k⟩ else m
theorem faster_cmp {d : Int} {m : Mv} {t s k : Int} (c : Int) (hc : c = 0 ∨ c = 1 ∨ c = 2) (k0 : 0 ≤ k) (hg : givenP d m = 0) (ht : IsTop d m.spd m.rise m.fall t) (hg' : givenP d (raised m c k) = 0) (hs : IsTop d (raised m c k).spd (raised m c k).rise (raised m c k).fall s) :
    (timeP d (raised m c k) s).1 * (timeP d m t).2 ≤ (timeP d m t).1 * (timeP d (raised m c k) s).2 := by
  by_cases hd : d = 0
  · subst hd
    rw [time_zero hg, time_zero hg']
    decide
  · rw [time_pos hg hd, time_pos hg' hd]
    obtain ⟨hv, hdd⟩ := given_ok hg
    obtain ⟨V0, V1, R0, R1, F0, F1⟩ := valid_bds hv
    obtain ⟨d1, d2⟩ := inB_iff.1 hdd
    obtain ⟨hv', _⟩ := given_ok hg'
    obtain ⟨V0', V1', R0', R1', F0', F1'⟩ := valid_bds hv'
    have tp := top_pos (show 1 ≤ d by omega) R0 F0 V0 ht
    have sp := top_pos (show 1 ≤ d by omega) R0' F0' V0' hs
    refine low_cmp (by unfold tD; exact Int.mul_pos (posD R0' F0') (by omega)) (by unfold tD; exact Int.mul_pos (posD R0 F0) (by omega)) ?_
    rcases hc with rfl | rfl | rfl
    · exact fast_speed R0 F0 tp (show m.spd ≤ m.spd + k by omega) ht hs
    · exact fast_rise R0 F0 tp (show m.rise ≤ m.rise + k by omega) ht hs
    · exact fast_fall R0 F0 tp (show m.fall ≤ m.fall + k by omega) ht hs
theorem farther_cmp {d : Int} {m : Mv} {t s k : Int} (k0 : 0 ≤ k) (hg : givenP d m = 0) (ht : IsTop d m.spd m.rise m.fall t) (hg' : givenP (d + k) m = 0) (hs : IsTop (d + k) m.spd m.rise m.fall s) :
    (timeP d m t).1 * (timeP (d + k) m s).2 ≤ (timeP (d + k) m s).1 * (timeP d m t).2 := by
  by_cases hd : d = 0
  · subst hd
    have b := time_bd hg' hs
    rw [time_zero hg, Int.zero_mul, Int.mul_one]
    exact b.1
  · obtain ⟨hv, hdd⟩ := given_ok hg
    obtain ⟨V0, V1, R0, R1, F0, F1⟩ := valid_bds hv
    obtain ⟨d1, d2⟩ := inB_iff.1 hdd
    rw [time_pos hg hd, time_pos hg' (by omega)]
    have tp := top_pos (show 1 ≤ d by omega) R0 F0 V0 ht
    have sp := top_pos (show 1 ≤ d + k by omega) R0 F0 V0 hs
    refine low_cmp (by unfold tD; exact Int.mul_pos (posD R0 F0) (by omega)) (by unfold tD; exact Int.mul_pos (posD R0 F0) (by omega)) ?_
    exact fast_far R0 F0 tp (by omega) ht hs
/-- The move with its accelerations exchanged. -/
def turnedM (m : Mv) : Mv := ⟨m.name, m.to, m.spd, m.fall, m.rise⟩
theorem turned_given {d : Int} {m : Mv} : givenP d (turnedM m) = givenP d m := by
  unfold givenP turnedM
  have : validM ⟨m.name, m.to, m.spd, m.fall, m.rise⟩ = validM m := by
    unfold validM
    simp only
    cases inB m.rise 1 16384 <;> cases inB m.fall 1 16384 <;> simp
  rw [this]
theorem turned_time {d : Int} {m : Mv} {t : Int} (hg : givenP d m = 0) : timeP d (turnedM m) t = timeP d m t := by
  by_cases hd : d = 0
  · subst hd
    rw [time_zero hg, time_zero (turned_given.trans hg)]
  · rw [time_pos hg hd, time_pos (turned_given.trans hg) hd]
    show (lowN (tN d m.fall m.rise t) (tD m.fall m.rise t), lowD (tN d m.fall m.rise t) (tD m.fall m.rise t)) = _
    rw [← tN_swap, ← tD_swap]
end Go.Proofs.Ytlgpolfbilkmbaa
