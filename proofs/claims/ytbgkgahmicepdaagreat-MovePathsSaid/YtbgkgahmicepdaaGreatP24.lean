/-
  PLAIN: the curve of a move over the rational numbers: it never falls, rests at last, and is nowhere steeper than its top speed.
-/
import Derived.Test.YtbgkgahmicepdaaGreatP23
namespace Go.Proofs.YtbgkgahmicepdaaGreat
set_option maxRecDepth 100000
set_option maxHeartbeats 80000000
set_option linter.unusedSimpArgs false
section
theorem rat_nz {a b c : Rat} (ha : a ≠ 0) (hb : b ≠ 0) (hc : c ≠ 0) : a * b * c ≠ 0 := by
 intro h;rcases Rat.mul_eq_zero.1 h with h | h
 ·rcases Rat.mul_eq_zero.1 h with h | h
  ·exact ha h
  ·exact hb h
 ·exact hc h
theorem rat_div_pos {a b : Rat} (ha : 0 < a) (hb : 0 < b) : 0 < a / b := by
 rw [Rat.div_def]; exact Rat.mul_pos ha (Rat.inv_pos.2 hb)
def moveQ (d R F t k : Rat) : List QP :=
 [⟨0, 0, 0, R / 2⟩, ⟨t / R, t * t / (2 * R), t, 0⟩, ⟨(2 * F * (t * t) + k) / (2 * R * F * t), (2 * F * d - t * t) / (2 * F), t, -F / 2⟩, ⟨(2 * F * (t * t) + k + 2 * R * (t * t)) / (2 * R * F * t), d, 0, 0⟩]
def moveS (d R F t k : Rat) : List QP :=
 [⟨0, 0, 0, R / 2⟩, ⟨(2 * F * (t * t) + k) / (2 * R * F * t), (2 * F * d - t * t) / (2 * F), t, -F / 2⟩, ⟨(2 * F * (t * t) + k + 2 * R * (t * t)) / (2 * R * F * t), d, 0, 0⟩]
theorem mv_a {R F t k : Rat} (hR : 0 < R) (hF : 0 < F) (ht : 0 < t) : (2 * F * (t * t) + k) / (2 * R * F * t) = t / R + k / (2 * R * F * t) := by
 have h1 : R ≠ 0 := by grind
 have h2 : F ≠ 0 := by grind
 have h3 : t ≠ 0 := by grind
 have h4 : 2 * R ≠ 0 := by grind
 have h6 : 2 * R * F * t ≠ 0 := rat_nz h4 h2 h3
 grind
theorem mv_b {R F t k : Rat} (hR : 0 < R) (hF : 0 < F) (ht : 0 < t) : (2 * F * (t * t) + k + 2 * R * (t * t)) / (2 * R * F * t) = (2 * F * (t * t) + k) / (2 * R * F * t) + t / F := by
 have h1 : R ≠ 0 := by grind
 have h2 : F ≠ 0 := by grind
 have h3 : t ≠ 0 := by grind
 have h4 : 2 * R ≠ 0 := by grind
 have h6 : 2 * R * F * t ≠ 0 := rat_nz h4 h2 h3
 grind
theorem mv_c {R F t d k : Rat} (hR : 0 < R) (hF : 0 < F) (ht : 0 < t) (hk : k = 2 * R * F * d - t * t * (R + F)) : t * t / (2 * R) + t * (k / (2 * R * F * t)) = (2 * F * d - t * t) / (2 * F) := by
 have h1 : R ≠ 0 := by grind
 have h2 : F ≠ 0 := by grind
 have h3 : t ≠ 0 := by grind
 have h4 : 2 * R ≠ 0 := by grind
 have h5 : 2 * F ≠ 0 := by grind
 have h6 : 2 * R * F * t ≠ 0 := rat_nz h4 h2 h3
 grind
theorem mv_d {F t d : Rat} (hF : 0 < F) : (2 * F * d - t * t) / (2 * F) + (t + (-F / 2) * (t / F)) * (t / F) = d ∧ t + 2 * (-F / 2 * (t / F)) = 0 := by
 have h1 : F ≠ 0 := by grind
 grind
theorem mv_e {R t : Rat} (hR : 0 < R) : 0 + (0 + R / 2 * (t / R - 0)) * (t / R - 0) = t * t / (2 * R) ∧ 0 + 2 * (R / 2 * (t / R - 0)) = t := by
 have h1 : R ≠ 0 := by grind
 grind
theorem up_last {R F t d k : Rat} (hR : 0 < R) (hF : 0 < F) (ht : 0 < t) : Up t [⟨(2 * F * (t * t) + k) / (2 * R * F * t), (2 * F * d - t * t) / (2 * F), t, -F / 2⟩, ⟨(2 * F * (t * t) + k + 2 * R * (t * t)) / (2 * R * F * t), d, 0, 0⟩] := by
 have h1 := mv_b (k := k) hR hF ht;have h2 := rat_div_pos ht hF;obtain ⟨d1, d2⟩ := mv_d (t := t) (d := d) hF;have e : (2 * F * (t * t) + k + 2 * R * (t * t)) / (2 * R * F * t) - (2 * F * (t * t) + k) / (2 * R * F * t) = t / F := by grind
 refine Up.go _ _ _ ?_ (Rat.le_of_lt ht) Rat.le_refl ?_ ?_ ?_ ?_ (Up.rest _ rfl rfl (Rat.le_of_lt ht))
 ·show (2 * F * (t * t) + k) / (2 * R * F * t) < (2 * F * (t * t) + k + 2 * R * (t * t)) / (2 * R * F * t)
  grind
 ·show 0 ≤ t + 2 * (-F / 2 * ((2 * F * (t * t) + k + 2 * R * (t * t)) / (2 * R * F * t) - (2 * F * (t * t) + k) / (2 * R * F * t)))
  rw [e, d2]; exact Rat.le_refl
 ·show t + 2 * (-F / 2 * ((2 * F * (t * t) + k + 2 * R * (t * t)) / (2 * R * F * t) - (2 * F * (t * t) + k) / (2 * R * F * t))) ≤ t
  rw [e, d2]; exact Rat.le_of_lt ht
 ·show (2 * F * d - t * t) / (2 * F) + (t + -F / 2 * ((2 * F * (t * t) + k + 2 * R * (t * t)) / (2 * R * F * t) - (2 * F * (t * t) + k) / (2 * R * F * t))) * ((2 * F * (t * t) + k + 2 * R * (t * t)) / (2 * R * F * t) - (2 * F * (t * t) + k) / (2 * R * F * t)) = d
  rw [e, d1]
 ·show t + 2 * (-F / 2 * ((2 * F * (t * t) + k + 2 * R * (t * t)) / (2 * R * F * t) - (2 * F * (t * t) + k) / (2 * R * F * t))) = 0
  rw [e, d2]
theorem moveQ_up {R F t d k : Rat} (hR : 0 < R) (hF : 0 < F) (ht : 0 < t) (hk : k = 2 * R * F * d - t * t * (R + F)) (k0 : 0 < k) : Up t (moveQ d R F t k) := by
 have h2 := rat_div_pos ht hR;have tle := Rat.le_of_lt ht;obtain ⟨e1, e2⟩ := mv_e (R := R) (t := t) hR;have ha := mv_a (k := k) hR hF ht;have hc := mv_c hR hF ht hk;have hw : 0 < 2 * R * F * t := Rat.mul_pos (Rat.mul_pos (by grind) hF) ht;have h3 := rat_div_pos k0 hw;have e : (2 * F * (t * t) + k) / (2 * R * F * t) - t / R = k / (2 * R * F * t) := by grind
 refine Up.go _ _ _ h2 Rat.le_refl tle ?_ ?_ e1 e2 (Up.go _ _ _ ?_ tle Rat.le_refl ?_ ?_ ?_ ?_ (up_last hR hF ht))
 ·show 0 ≤ 0 + 2 * (R / 2 * (t / R - 0))
  rw [e2]; exact tle
 ·show 0 + 2 * (R / 2 * (t / R - 0)) ≤ t
  rw [e2]; exact Rat.le_refl
 ·show t / R < (2 * F * (t * t) + k) / (2 * R * F * t)
  grind
 ·show 0 ≤ t + 2 * (0 * ((2 * F * (t * t) + k) / (2 * R * F * t) - t / R))
  grind
 ·show t + 2 * (0 * ((2 * F * (t * t) + k) / (2 * R * F * t) - t / R)) ≤ t
  grind
 ·show t * t / (2 * R) + (t + 0 * ((2 * F * (t * t) + k) / (2 * R * F * t) - t / R)) * ((2 * F * (t * t) + k) / (2 * R * F * t) - t / R) = (2 * F * d - t * t) / (2 * F)
  rw [e, ← hc]; grind
 ·show t + 2 * (0 * ((2 * F * (t * t) + k) / (2 * R * F * t) - t / R)) = t
  grind
theorem moveS_up {R F t d k : Rat} (hR : 0 < R) (hF : 0 < F) (ht : 0 < t) (hk : k = 2 * R * F * d - t * t * (R + F)) (k0 : k = 0) : Up t (moveS d R F t k) := by
 have h2 := rat_div_pos ht hR;have tle := Rat.le_of_lt ht;obtain ⟨e1, e2⟩ := mv_e (R := R) (t := t) hR;have ha := mv_a (k := k) hR hF ht;have hc := mv_c hR hF ht hk;have z : k / (2 * R * F * t) = 0 := by rw [k0, Rat.div_def, Rat.zero_mul]
 rw [z] at ha hc;have e : (2 * F * (t * t) + k) / (2 * R * F * t) = t / R := by grind
 refine Up.go _ _ _ ?_ Rat.le_refl tle ?_ ?_ ?_ ?_ (up_last hR hF ht)
 ·show 0 < (2 * F * (t * t) + k) / (2 * R * F * t)
  rw [e]; exact h2
 ·show 0 ≤ 0 + 2 * (R / 2 * ((2 * F * (t * t) + k) / (2 * R * F * t) - 0))
  rw [e, e2]; exact tle
 ·show 0 + 2 * (R / 2 * ((2 * F * (t * t) + k) / (2 * R * F * t) - 0)) ≤ t
  rw [e, e2]; exact Rat.le_refl
 ·show 0 + (0 + R / 2 * ((2 * F * (t * t) + k) / (2 * R * F * t) - 0)) * ((2 * F * (t * t) + k) / (2 * R * F * t) - 0) = (2 * F * d - t * t) / (2 * F)
  rw [e, e1, ← hc]; grind
 ·show 0 + 2 * (R / 2 * ((2 * F * (t * t) + k) / (2 * R * F * t) - 0)) = t
  rw [e, e2]
theorem qL_curve {d R F t : Int} (hd : ¬ d = 0) (hR : 1 ≤ R) (hF : 1 ≤ F) (ht : 1 ≤ t) : qL (curveL d R F t) = if kP d R F t = 0 then moveS d R F t (kP d R F t : Int) else moveQ d R F t (kP d R F t : Int) := by
 have w0 : 0 < 2 * R * F * t := Int.mul_pos (Int.mul_pos (by omega) (by omega)) (by omega);unfold curveL;rw [if_neg hd]
 split
 ·simp [qL, qp, moveS, frq_one, frq_low _ 2 (by decide), frq_low _ (2 * R * F * t) w0, frq_low _ (2 * F) (by omega)]
 ·simp [qL, qp, moveQ, frq_one, frq_low _ 2 (by decide), frq_low _ (2 * R * F * t) w0, frq_low _ (2 * F) (by omega), frq_low _ (2 * R) (by omega), frq_low _ R (by omega)]
theorem qL_f (L : List Pc) (i : Nat) (h : i < (qL L).length) : ((qL L)[i]).f = fr ((pcg L i).f0, (pcg L i).f1) := by rw [qL_get]; rfl
theorem Up.asc {m : Rat} {L : List QP} (h : Up m L) : Asc L := by
 induction h with
 | rest p _ _ _ => exact fun i h => absurd h (by simp)
 | go p q r hf _ _ _ _ _ _ h ih =>
  intro i hi
  cases i with
  | zero => exact hf
  | succ i => exact ih i (by simp only [List.length_cons] at hi ⊢; omega)
theorem ok_of_up {L : List Pc} {m : Rat} (h1 : 1 ≤ L.length) (h2 : L.length ≤ 200) (hv : ∀ i, i < L.length → PcOK (pcg L i)) (up : Up m (qL L)) : CurveOK L :=
 ⟨h1, h2, hv, fun i hi => by
  have hi' : i + 1 < (qL L).length := by rw [qL_len]; exact hi
  have a := up.asc i hi';rw [qL_f, qL_f] at a;exact (frq_lt (a := ((pcg L i).f0, (pcg L i).f1)) (b := ((pcg L (i + 1)).f0, (pcg L (i + 1)).f1)) (den_pos (hv i (by omega)).vf) (den_pos (hv (i + 1) hi).vf)).1 a⟩
structure MoveC (L : List Pc) (d t : Int) : Prop where
 ok : CurveOK L
 up : Up (t : Rat) (qL L)
 f0 : ((pcg L 0).f0, (pcg L 0).f1) = (0, 1)
 a0 : ((pcg L 0).a0, (pcg L 0).a1) = (0, 1)
 b0 : ((pcg L 0).b0, (pcg L 0).b1) = (0, 1)
 an : ((pcg L (L.length - 1)).a0, (pcg L (L.length - 1)).a1) = (d, 1)
 bn : ((pcg L (L.length - 1)).b0, (pcg L (L.length - 1)).b1) = (0, 1)
 cn : ((pcg L (L.length - 1)).c0, (pcg L (L.length - 1)).c1) = (0, 1)
 len : L.length ≤ 4
 t0 : 0 ≤ t
theorem valid_one {n : Int} (h1 : -1152921504606846976 ≤ n) (h2 : n ≤ 1152921504606846976) : validF n 1 = true := (validF_iff _ _).2 ⟨by decide, by decide, h1, h2, by simp⟩
theorem move_c {d : Int} {m : Mv} {t : Int} (hg : givenP d m = 0) (ht : IsTop d m.spd m.rise m.fall t) : MoveC (curveL d m.rise m.fall t) d t := by
 obtain ⟨hv, hd⟩ := given_ok hg;obtain ⟨V0, V1, R0, R1, F0, F1⟩ := valid_bds hv;obtain ⟨d1, d2⟩ := inB_iff.1 hd;have tz := ht.1;have o := valid_one (n := 0) (by decide) (by decide)
 by_cases hz : d = 0
 ·have e : curveL d m.rise m.fall t = [⟨0, 1, 0, 1, 0, 1, 0, 1⟩] := by unfold curveL; rw [if_pos hz]
  rw [e];have up : Up (t : Rat) (qL [⟨0, 1, 0, 1, 0, 1, 0, 1⟩]) := Up.rest _ frq_zero frq_zero (Rat.intCast_nonneg.2 tz)
  have hvv : ∀ i, i < [(⟨0, 1, 0, 1, 0, 1, 0, 1⟩ : Pc)].length → PcOK (pcg [⟨0, 1, 0, 1, 0, 1, 0, 1⟩] i) := fun i hi => by
   obtain rfl : i = 0 := by simpa using hi
   exact ⟨o, o, o, o⟩
  exact ⟨ok_of_up (by simp) (by simp) hvv up, up, rfl, rfl, rfl, by rw [hz]; rfl, rfl, rfl, by simp, tz⟩
 ·have t0 := top_pos (by omega) R0 F0 V0 ht
  have t1 : t ≤ 8192 := by have := ht.2.1; omega
  obtain ⟨T0, T1, k0, k1, rf0, rf1, w0, w1, a0, a1, b0, b1, c0, c1, e0, e1⟩ := curve_b (by omega) d2 R0 R1 F0 F1 V0 V1 ht;have hQ := qL_curve (d := d) (R := m.rise) (F := m.fall) (t := t) hz R0 F0 t0;have cR := cast_pos (d := m.rise) (by omega);have cF := cast_pos (d := m.fall) (by omega);have ct := cast_pos (d := t) (by omega)
  have hk : ((kP d m.rise m.fall t : Int) : Rat) = 2 * (m.rise : Rat) * (m.fall : Rat) * (d : Rat) - (t : Rat) * (t : Rat) * ((m.rise : Rat) + (m.fall : Rat)) := by
   unfold kP; simp
  have vd := valid_one (n := d) (by omega) (by omega);have vt := valid_one (n := t) (by omega) (by omega);have p0 : PcOK ⟨0, 1, 0, 1, 0, 1, lowN m.rise 2, lowD m.rise 2⟩ := ⟨o, o, o, valid_low (by decide) (by omega) (by omega) (by decide)⟩;have p1 : PcOK ⟨lowN t m.rise, lowD t m.rise, lowN (t * t) (2 * m.rise), lowD (t * t) (2 * m.rise), t, 1, 0, 1⟩ := ⟨valid_low (by omega) (by omega) (by omega) (by omega), valid_low (by omega) (by omega) (by omega) (by omega), vt, o⟩;have p2 : PcOK ⟨lowN (2 * m.fall * (t * t) + kP d m.rise m.fall t) (2 * m.rise * m.fall * t), lowD (2 * m.fall * (t * t) + kP d m.rise m.fall t) (2 * m.rise * m.fall * t), lowN (2 * m.fall * d - t * t) (2 * m.fall), lowD (2 * m.fall * d - t * t) (2 * m.fall), t, 1, lowN (-m.fall) 2, lowD (-m.fall) 2⟩ := ⟨valid_low (by omega) (by omega) (by omega) (by omega), valid_low (by omega) (by omega) (by omega) (by omega), vt, valid_low (by decide) (by omega) (by omega) (by decide)⟩;have p3 : PcOK ⟨lowN (2 * m.fall * (t * t) + kP d m.rise m.fall t + 2 * m.rise * (t * t)) (2 * m.rise * m.fall * t), lowD (2 * m.fall * (t * t) + kP d m.rise m.fall t + 2 * m.rise * (t * t)) (2 * m.rise * m.fall * t), d, 1, 0, 1, 0, 1⟩ := ⟨valid_low (by omega) (by omega) (by omega) (by omega), vd, o, o⟩
  by_cases kz : kP d m.rise m.fall t = 0
  ·rw [if_pos kz] at hQ
   have up : Up (t : Rat) (qL (curveL d m.rise m.fall t)) := by rw [hQ]; exact moveS_up cR cF ct hk (by rw [kz]; rfl)
   unfold curveL at up ⊢;rw [if_neg hz, if_pos kz] at up ⊢;refine ⟨ok_of_up (by simp) (by simp) (fun i hi => ?_) up, up, rfl, rfl, rfl, rfl, rfl, rfl, by simp, tz⟩;have hi' : i < 3 := by simpa using hi
   obtain rfl | rfl | rfl : i = 0 ∨ i = 1 ∨ i = 2 := by omega
   ·exact p0
   ·exact p2
   ·exact p3
  ·rw [if_neg kz] at hQ
   have up : Up (t : Rat) (qL (curveL d m.rise m.fall t)) := by rw [hQ]; exact moveQ_up cR cF ct hk (Rat.intCast_pos.2 (by omega))
   unfold curveL at up ⊢;rw [if_neg hz, if_neg kz] at up ⊢;refine ⟨ok_of_up (by simp) (by simp) (fun i hi => ?_) up, up, rfl, rfl, rfl, rfl, rfl, rfl, by simp, tz⟩;have hi' : i < 4 := by simpa using hi
   obtain rfl | rfl | rfl | rfl : i = 0 ∨ i = 1 ∨ i = 2 ∨ i = 3 := by omega
   ·exact p0
   ·exact p1
   ·exact p2
   ·exact p3
theorem MoveC.last {L : List Pc} {d t : Int} (h : MoveC L d t) : lastA (qL L) = (d : Rat) ∧ lastF (qL L) = fr ((pcg L (L.length - 1)).f0, (pcg L (L.length - 1)).f1) := by
 have g : ∀ (Q : List QP) (h : 0 < Q.length), lastA Q = (Q[Q.length - 1]'(by omega)).a ∧ lastF Q = (Q[Q.length - 1]'(by omega)).f := by
  intro Q
  induction Q with
  | nil => intro h; simp at h
  | cons p r ih =>
   intro _
   cases r with
   | nil => exact ⟨rfl, rfl⟩
   | cons q r =>
    obtain ⟨a, b⟩ := ih (by simp);have e1 : lastA (p :: q :: r) = lastA (q :: r) := rfl;have e2 : lastF (p :: q :: r) = lastF (q :: r) := rfl;rw [e1, e2, a, b];exact ⟨rfl, rfl⟩
 have hp := h.ok.pos;obtain ⟨a, b⟩ := g (qL L) (by rw [qL_len]; omega);rw [a, b];have hl := qL_len L
 constructor
 ·rw [qL_get]
  have e : (qL L).length - 1 = L.length - 1 := by omega
  rw [e, ← frq_one d, ← h.an]
  rfl
 ·rw [qL_f]
  have e : (qL L).length - 1 = L.length - 1 := by omega
  rw [e]
theorem MoveC.first {L : List Pc} {d t : Int} (h : MoveC L d t) : headA (qL L) = 0 := by
 rw [headA_qL h.ok.pos, h.a0, frq_zero]
theorem MoveC.slope {L : List Pc} {d t : Int} (h : MoveC L d t) {x : Int × Int} (vx : vF x = true) (hx : (slopeP L x).2.2 = 0) : 0 ≤ (slopeP L x).1 ∧ (slopeP L x).1 * 1 ≤ t * (slopeP L x).2.1 := by
 have ex := slopeP_ok h.ok vx hx;have wx := slopeP_valid h.ok vx hx;obtain ⟨r1, r2⟩ := h.up.slope (fr x);rw [← ex] at r1 r2
 constructor
 ·rw [← frq_zero] at r1
  have := (frq_le (a := (0, 1)) (by decide) (den_pos wx)).1 r1;have e : 0 * (slopeP L x).2.1 ≤ (slopeP L x).1 * 1 := this;omega
 ·rw [← frq_one] at r2
  exact (frq_le (b := (t, 1)) (den_pos wx) (by show (0 : Int) < 1; decide)).1 r2
end
section
open Go.RowKit Go.Shelf
attribute [local go_sem] Oper.semAt_some
open Classical in
noncomputable def mgE (h : HouseR) (f : Int) (m : Mv) : Int := if setE h m = 0 then (if reachB (setO h m) f = true ∧ reachB (setO h m) m.to = true then 0 else 2) else setE h m
def mgD (f : Int) (m : Mv) : Int := if f ≤ m.to then m.to - f else f - m.to
open Classical in
noncomputable def mgR (h : HouseR) (f : Int) (m : Mv) : Int := if mgE h f m = 0 then mgD f m else 0
theorem mg_ok {h : HouseR} {f : Int} {m : Mv} (e : mgE h f m = 0) : houseB h = true ∧ validM m = true ∧ 0 ≤ f ∧ f ≤ 1048576 ∧ 0 ≤ m.to ∧ m.to ≤ 1048576 ∧ givenP (mgD f m) m = 0 ∧ 0 ≤ mgD f m ∧ mgD f m ≤ 1048576 ∧ mgR h f m = mgD f m := by
 have hR : mgR h f m = mgD f m := by unfold mgR; rw [if_pos e]
 unfold mgE at e
 by_cases c : setE h m = 0
 ·rw [if_pos c] at e
  obtain ⟨h1, h2, h3, h4, h5⟩ := set_ok c
  by_cases r : reachB (setO h m) f = true ∧ reachB (setO h m) m.to = true
  ·obtain ⟨r1, r2⟩ := r
   unfold reachB at r1 r2;rw [Bool.and_eq_true, decide_eq_true_eq, decide_eq_true_eq] at r1 r2;have sk := setB_iff.1 ((houseB_iff.1 h1).2.2.2.2.2 _ h4).1;rw [← h5] at sk;obtain ⟨l1, l2, l3⟩ := sk.low;have d0 : 0 ≤ mgD f m ∧ mgD f m ≤ 1048576 := by unfold mgD; split <;> omega
   refine ⟨h1, h2, by omega, by omega, by omega, by omega, ?_, d0.1, d0.2, hR⟩;unfold givenP;rw [if_pos h2, if_pos (inB_iff.2 d0)]
  ·rw [if_neg r] at e; cases e
 ·rw [if_neg c] at e; exact absurd e c
theorem mgiven_any (h : HouseR) (f : Int) (m : Mv) (w : World) (hh : HouseIn w h) :
  Calls Tryz.prog 43 #[.agg #[.string h.name, .int .i64 h.height, .slice h.sa h.sets.length h.sc, .slice h.ra h.roofs.length h.rc], .int .i64 f, .agg #[.string m.name, .int .i64 m.to, .int .i64 m.spd, .int .i64 m.rise, .int .i64 m.fall]] w fun e w' => e = .returned (.tuple #[.int .i64 (mgR h f m), .int .i64 (mgE h f m)]) ∧ Below w.heap.size w w' := by
 obtain ⟨x, hx⟩ := nm (setO h m);obtain ⟨e, he⟩ := nm (setE h m)
 have HMS : Hid (∀ w' : World, Below w.heap.size w w' → Calls Tryz.prog 48 #[.agg #[.string h.name, .int .i64 h.height, .slice h.sa h.sets.length h.sc, .slice h.ra h.roofs.length h.rc], .agg #[.string m.name, .int .i64 m.to, .int .i64 m.spd, .int .i64 m.rise, .int .i64 m.fall]] w' fun z w2 => z = .returned (.tuple #[.agg #[.string x.name, .int .i64 x.depth, .int .i64 x.low, .int .i64 x.high, .int .i64 x.length, .slice x.la x.lines.length x.lc, .int .i64 x.pipe, .int .i64 x.arbor, .int .i64 x.purchase, .int .i64 x.most, .int .i64 x.brake, .slice x.ia x.items.length x.ic, .slice x.ba x.bricks.length x.bc], .int .i64 e]) ∧ Below w'.heap.size w' w2) := lh fun w' hb => by
  have := mset_any h m w' (hh.grow hb);rw [hx, he] at this;exact this
 clear hh;have HMG : Hid (mgE h f m = if e = 0 then (if reachB x f = true ∧ reachB x m.to = true then 0 else 2) else e) := lh (by unfold mgE; rw [he, hx])
 by_cases z : e = 0
 ·subst z
  cases r1 : reachB x f
  ·have HR1 := lh r1
   have HO : Hid (mgE h f m = 2 ∧ mgR h f m = 0) := lh (by
    have e2 : mgE h f m = 2 := by rw [HMG.out, if_pos rfl, if_neg (fun q => by rw [r1] at q; exact absurd q.1 (by decide))]
    exact ⟨e2, by unfold mgR; rw [if_neg (by rw [e2]; decide)]⟩)
   rw [HO.out.1, HO.out.2];clear r1 hx he
   go_enter Tryz.func43, Tryz.ntmps43
   go_upto_region 1 with (fail)
   have hat1 := (HouseAt.new w h 25).carry (below_new (w.alloc (LHo h)) (.cells #[.string m.name, .int .i64 m.to, .int .i64 m.spd, .int .i64 m.rise, .int .i64 m.fall] 27));have mat1 := MvAt.new (w.alloc (LHo h)) m 27;have hW0 := (below_new w (LHo h)).alloc (by simp) (.cells #[.string m.name, .int .i64 m.to, .int .i64 m.spd, .int .i64 m.rise, .int .i64 m.fall] 27);have hm1 : (w.alloc (LHo h)).heap.size = w.heap.size + 1 := by simp
   rw [hm1] at mat1;generalize ((w.alloc (LHo h)).alloc (.cells #[.string m.name, .int .i64 m.to, .int .i64 m.spd, .int .i64 m.rise, .int .i64 m.fall] 27)) = W0 at *;have HAT := lh hat1;have MAT := lh mat1;clear hat1 mat1 hm1;obtain ⟨k0, k1, k2, k3⟩ := HAT.out;obtain ⟨m0, m1, m2, m3, m4⟩ := MAT.out
   go_upto_region 2 with (go_at_call 48; (with_reducible refine (HMS.out _ hW0).mono ?_); rintro e w1 ⟨rfl, hb1⟩)
   have hbn := below_new w1 (LSe x);have hx := SetAt.new w1 x 54;have hzs : w1.heap.size < (w1.alloc (LSe x)).heap.size := by simp
   have hb2 := hb1.trans (hbn.mono hb1.size);clear k0 k1 k2 k3 m0 m1 m2 m3 m4 hbn hb1;obtain ⟨B, hBe⟩ := nm (w1.heap.size);simp only [hBe] at hx hzs ⊢;generalize w1.alloc (LSe x) = W2 at *;have HX : Hid (∀ wx, Below W2.heap.size W2 wx → SetAt wx B x) := lh fun wx q => hx.below q hzs;have HM2 : Hid (∀ wx, Below W2.heap.size W2 wx → MvAt wx (w.heap.size + 1) m) := lh fun wx q => MAT.out.carry (hb2.trans (q.mono hb2.size));obtain ⟨d0, d1, d2, d3, d4, d5, d6, d7, d8, d9, d10, d11, d12⟩ := hx;obtain ⟨m0, m1, m2, m3, m4⟩ := HM2.out _ br
   go_wp2_with (go_at_call 49; (with_reducible refine (reaches_any x f _).mono ?_); rintro e w3 ⟨rfl, hb3⟩; rw [HR1.out]; clear d0 d1 d2 d3 d4 d5 d6 d7 d8 d9 d10 d11 d12 m0 m1 m2 m3 m4; obtain ⟨d0, d1, d2, d3, d4, d5, d6, d7, d8, d9, d10, d11, d12⟩ := HX.out _ hb3; obtain ⟨m0, m1, m2, m3, m4⟩ := HM2.out _ hb3)
   go_ret2
   exact ⟨rfl, hW0.trans ((hb2.trans (hb3.mono hb2.size)).mono hW0.size)⟩
  have HR1 := lh r1
  cases r2 : reachB x m.to
  ·have HR2 := lh r2
   have HO : Hid (mgE h f m = 2 ∧ mgR h f m = 0) := lh (by
    have e2 : mgE h f m = 2 := by rw [HMG.out, if_pos rfl, if_neg (fun q => by rw [r2] at q; exact absurd q.2 (by decide))]
    exact ⟨e2, by unfold mgR; rw [if_neg (by rw [e2]; decide)]⟩)
   rw [HO.out.1, HO.out.2];clear r1 r2 hx he
   go_enter Tryz.func43, Tryz.ntmps43
   go_upto_region 1 with (fail)
   have hat1 := (HouseAt.new w h 25).carry (below_new (w.alloc (LHo h)) (.cells #[.string m.name, .int .i64 m.to, .int .i64 m.spd, .int .i64 m.rise, .int .i64 m.fall] 27));have mat1 := MvAt.new (w.alloc (LHo h)) m 27;have hW0 := (below_new w (LHo h)).alloc (by simp) (.cells #[.string m.name, .int .i64 m.to, .int .i64 m.spd, .int .i64 m.rise, .int .i64 m.fall] 27);have hm1 : (w.alloc (LHo h)).heap.size = w.heap.size + 1 := by simp
   rw [hm1] at mat1;generalize ((w.alloc (LHo h)).alloc (.cells #[.string m.name, .int .i64 m.to, .int .i64 m.spd, .int .i64 m.rise, .int .i64 m.fall] 27)) = W0 at *;have HAT := lh hat1;have MAT := lh mat1;clear hat1 mat1 hm1;obtain ⟨k0, k1, k2, k3⟩ := HAT.out;obtain ⟨m0, m1, m2, m3, m4⟩ := MAT.out
   go_upto_region 2 with (go_at_call 48; (with_reducible refine (HMS.out _ hW0).mono ?_); rintro e w1 ⟨rfl, hb1⟩)
   have hbn := below_new w1 (LSe x);have hx := SetAt.new w1 x 54;have hzs : w1.heap.size < (w1.alloc (LSe x)).heap.size := by simp
   have hb2 := hb1.trans (hbn.mono hb1.size);clear k0 k1 k2 k3 m0 m1 m2 m3 m4 hbn hb1;obtain ⟨B, hBe⟩ := nm (w1.heap.size);simp only [hBe] at hx hzs ⊢;generalize w1.alloc (LSe x) = W2 at *;have HX : Hid (∀ wx, Below W2.heap.size W2 wx → SetAt wx B x) := lh fun wx q => hx.below q hzs;have HM2 : Hid (∀ wx, Below W2.heap.size W2 wx → MvAt wx (w.heap.size + 1) m) := lh fun wx q => MAT.out.carry (hb2.trans (q.mono hb2.size));obtain ⟨d0, d1, d2, d3, d4, d5, d6, d7, d8, d9, d10, d11, d12⟩ := hx;obtain ⟨m0, m1, m2, m3, m4⟩ := HM2.out _ br
   go_wp2_with (first
    | (go_at_call 49; (with_reducible refine (reaches_any x f _).mono ?_); rintro e w3 ⟨rfl, hb3⟩; rw [HR1.out]; clear d0 d1 d2 d3 d4 d5 d6 d7 d8 d9 d10 d11 d12 m0 m1 m2 m3 m4; obtain ⟨d0, d1, d2, d3, d4, d5, d6, d7, d8, d9, d10, d11, d12⟩ := HX.out _ hb3; obtain ⟨m0, m1, m2, m3, m4⟩ := HM2.out _ hb3)
    | (go_at_call 49; (with_reducible refine (reaches_any x m.to _).mono ?_); rintro e w4 ⟨rfl, hb4⟩; rw [HR2.out]; have hb34 := hb3.trans (hb4.mono hb3.size); clear d0 d1 d2 d3 d4 d5 d6 d7 d8 d9 d10 d11 d12 m0 m1 m2 m3 m4; obtain ⟨m0, m1, m2, m3, m4⟩ := HM2.out _ hb34))
   go_ret2
   exact ⟨rfl, hW0.trans ((hb2.trans (hb34.mono hb2.size)).mono hW0.size)⟩
  have HR2 := lh r2;have e2 : mgE h f m = 0 := by rw [HMG.out, if_pos rfl, if_pos ⟨r1, r2⟩]
  obtain ⟨_, _, f0, f1, t0, t1, _, d0, d1, hD⟩ := mg_ok e2;rw [e2, hD];have u1 : IntKind.i64.wrap (m.to - f) = m.to - f := IntWalk.i64_in _ (by omega);have u2 : IntKind.i64.wrap (f - m.to) = f - m.to := IntWalk.i64_in _ (by omega);have HDD : Hid (mgD f m = max (m.to - f) (f - m.to)) := lh (by unfold mgD; split <;> omega);have HDI : Hid (mgD f m = if m.to - f ≤ f - m.to then f - m.to else m.to - f) := lh (by unfold mgD; split <;> split <;> omega);clear r1 r2 hx he e2 hD d0 d1
  go_enter Tryz.func43, Tryz.ntmps43
  go_upto_region 1 with (fail)
  have hat1 := (HouseAt.new w h 25).carry (below_new (w.alloc (LHo h)) (.cells #[.string m.name, .int .i64 m.to, .int .i64 m.spd, .int .i64 m.rise, .int .i64 m.fall] 27));have mat1 := MvAt.new (w.alloc (LHo h)) m 27;have hW0 := (below_new w (LHo h)).alloc (by simp) (.cells #[.string m.name, .int .i64 m.to, .int .i64 m.spd, .int .i64 m.rise, .int .i64 m.fall] 27);have hm1 : (w.alloc (LHo h)).heap.size = w.heap.size + 1 := by simp
  rw [hm1] at mat1;generalize ((w.alloc (LHo h)).alloc (.cells #[.string m.name, .int .i64 m.to, .int .i64 m.spd, .int .i64 m.rise, .int .i64 m.fall] 27)) = W0 at *;have HAT := lh hat1;have MAT := lh mat1;clear hat1 mat1 hm1;obtain ⟨k0, k1, k2, k3⟩ := HAT.out;obtain ⟨m0, m1, m2, m3, m4⟩ := MAT.out
  go_upto_region 2 with (go_at_call 48; (with_reducible refine (HMS.out _ hW0).mono ?_); rintro e w1 ⟨rfl, hb1⟩)
  have hbn := below_new w1 (LSe x);have hx := SetAt.new w1 x 54;have hzs : w1.heap.size < (w1.alloc (LSe x)).heap.size := by simp
  have hb2 := hb1.trans (hbn.mono hb1.size);clear k0 k1 k2 k3 m0 m1 m2 m3 m4 hbn hb1;obtain ⟨B, hBe⟩ := nm (w1.heap.size);simp only [hBe] at hx hzs ⊢;generalize w1.alloc (LSe x) = W2 at *;have HX : Hid (∀ wx, Below W2.heap.size W2 wx → SetAt wx B x) := lh fun wx q => hx.below q hzs;have HM2 : Hid (∀ wx, Below W2.heap.size W2 wx → MvAt wx (w.heap.size + 1) m) := lh fun wx q => MAT.out.carry (hb2.trans (q.mono hb2.size));obtain ⟨d0, d1, d2, d3, d4, d5, d6, d7, d8, d9, d10, d11, d12⟩ := hx;obtain ⟨m0, m1, m2, m3, m4⟩ := HM2.out _ br
  go_wp2_with (first
   | (go_at_call 49; (with_reducible refine (reaches_any x f _).mono ?_); rintro e w3 ⟨rfl, hb3⟩; rw [HR1.out]; clear d0 d1 d2 d3 d4 d5 d6 d7 d8 d9 d10 d11 d12 m0 m1 m2 m3 m4; obtain ⟨d0, d1, d2, d3, d4, d5, d6, d7, d8, d9, d10, d11, d12⟩ := HX.out _ hb3; obtain ⟨m0, m1, m2, m3, m4⟩ := HM2.out _ hb3)
   | (go_at_call 49; (with_reducible refine (reaches_any x m.to _).mono ?_); rintro e w4 ⟨rfl, hb4⟩; rw [HR2.out]; have hb34 := hb3.trans (hb4.mono hb3.size); clear d0 d1 d2 d3 d4 d5 d6 d7 d8 d9 d10 d11 d12 m0 m1 m2 m3 m4; obtain ⟨m0, m1, m2, m3, m4⟩ := HM2.out _ hb34))
  all_goals go_ret2
  all_goals refine ⟨?_, hW0.trans ((hb2.trans (hb34.mono hb2.size)).mono hW0.size)⟩
  all_goals first
   | (rw [HDD.out]; rfl)
   | (rw [show mgD f m = m.to - f by (rw [HDD.out]; omega)]; rfl)
   | (rw [show mgD f m = f - m.to by (rw [HDD.out]; omega)]; rfl)
 ·have HO : Hid (mgE h f m = e ∧ mgR h f m = 0) := lh (by
   have e2 : mgE h f m = e := by rw [HMG.out, if_neg z]
   exact ⟨e2, by unfold mgR; rw [if_neg (by rw [e2]; exact z)]⟩)
  rw [HO.out.1, HO.out.2];have z1 : (e != 0) = true := by simpa using z
  clear hx he z
  go_enter Tryz.func43, Tryz.ntmps43
  go_upto_region 1 with (fail)
  have hat1 := (HouseAt.new w h 25).carry (below_new (w.alloc (LHo h)) (.cells #[.string m.name, .int .i64 m.to, .int .i64 m.spd, .int .i64 m.rise, .int .i64 m.fall] 27));have mat1 := MvAt.new (w.alloc (LHo h)) m 27;have hW0 := (below_new w (LHo h)).alloc (by simp) (.cells #[.string m.name, .int .i64 m.to, .int .i64 m.spd, .int .i64 m.rise, .int .i64 m.fall] 27);have hm1 : (w.alloc (LHo h)).heap.size = w.heap.size + 1 := by simp
  rw [hm1] at mat1;generalize ((w.alloc (LHo h)).alloc (.cells #[.string m.name, .int .i64 m.to, .int .i64 m.spd, .int .i64 m.rise, .int .i64 m.fall] 27)) = W0 at *;have HAT := lh hat1;have MAT := lh mat1;clear hat1 mat1 hm1;obtain ⟨k0, k1, k2, k3⟩ := HAT.out;obtain ⟨m0, m1, m2, m3, m4⟩ := MAT.out
  go_upto_region 2 with (go_at_call 48; (with_reducible refine (HMS.out _ hW0).mono ?_); rintro e w1 ⟨rfl, hb1⟩)
  have hbn := below_new w1 (LSe x);have hx := SetAt.new w1 x 54;have hzs : w1.heap.size < (w1.alloc (LSe x)).heap.size := by simp
  have hb2 := hb1.trans (hbn.mono hb1.size);clear k0 k1 k2 k3 m0 m1 m2 m3 m4 hbn hb1;obtain ⟨B, hBe⟩ := nm (w1.heap.size);simp only [hBe] at hx hzs ⊢;generalize w1.alloc (LSe x) = W2 at *;have HX : Hid (∀ wx, Below W2.heap.size W2 wx → SetAt wx B x) := lh fun wx q => hx.below q hzs;have HM2 : Hid (∀ wx, Below W2.heap.size W2 wx → MvAt wx (w.heap.size + 1) m) := lh fun wx q => MAT.out.carry (hb2.trans (q.mono hb2.size));obtain ⟨d0, d1, d2, d3, d4, d5, d6, d7, d8, d9, d10, d11, d12⟩ := hx;obtain ⟨m0, m1, m2, m3, m4⟩ := HM2.out _ br
  go_wp2_with fail
  go_ret2
  exact ⟨rfl, hW0.trans (hb2.mono hW0.size)⟩
noncomputable def endP (h : HouseR) (f : Int) (m : Mv) (t : Int) : Int × Int := if mgE h f m = 0 then timeP (mgD f m) m t else (0, 0)
theorem mend_any (h : HouseR) (f : Int) (m : Mv) (t : Int) (ht : mgE h f m = 0 → IsTop (mgD f m) m.spd m.rise m.fall t) (w : World) (hh : HouseIn w h) :
  Calls Tryz.prog 14 #[.agg #[.string h.name, .int .i64 h.height, .slice h.sa h.sets.length h.sc, .slice h.ra h.roofs.length h.rc], .int .i64 f, .agg #[.string m.name, .int .i64 m.to, .int .i64 m.spd, .int .i64 m.rise, .int .i64 m.fall]] w fun e w' => e = .returned (.tuple #[.agg #[.int .i64 (endP h f m t).1, .int .i64 (endP h f m t).2], .int .i64 (mgE h f m)]) ∧ Below w.heap.size w w' := by
 obtain ⟨e, he⟩ := nm (mgE h f m);obtain ⟨d, hd⟩ := nm (mgR h f m)
 have HG : Hid (∀ w' : World, Below w.heap.size w w' → Calls Tryz.prog 43 #[.agg #[.string h.name, .int .i64 h.height, .slice h.sa h.sets.length h.sc, .slice h.ra h.roofs.length h.rc], .int .i64 f, .agg #[.string m.name, .int .i64 m.to, .int .i64 m.spd, .int .i64 m.rise, .int .i64 m.fall]] w' fun z w2 => z = .returned (.tuple #[.int .i64 d, .int .i64 e]) ∧ Below w'.heap.size w' w2) := lh fun w' hb => by
  have := mgiven_any h f m w' (hh.grow hb);rw [hd, he] at this;exact this
 clear hh
 by_cases z : e = 0
 ·subst z
  obtain ⟨_, _, _, _, _, _, gd, _, _, hD⟩ := mg_ok he;have HT := Time_any (mgD f m) m t (fun _ => ht he);obtain ⟨P, hP⟩ := nm (timeP (mgD f m) m t);rw [gd, hP] at HT;have HR : Hid (endP h f m t = P) := lh (by unfold endP; rw [if_pos he, hP]);rw [he, HR.out];obtain rfl : mgD f m = d := hD.symm.trans hd;obtain ⟨d, hdd⟩ := nm (mgD f m);rw [hdd] at HG HT;have HTT := lh HT;clear HT hD hd hP ht gd he hdd
  go_enter Tryz.func14, Tryz.ntmps14
  go_upto_region 1 with (fail)
  have hat1 := ((HouseAt.new w h 25).carry (below_new (w.alloc (LHo h)) (.cells #[.string m.name, .int .i64 m.to, .int .i64 m.spd, .int .i64 m.rise, .int .i64 m.fall] 27))).carry (below_new ((w.alloc (LHo h)).alloc (.cells #[.string m.name, .int .i64 m.to, .int .i64 m.spd, .int .i64 m.rise, .int .i64 m.fall] 27)) (.cells #[.int .i64 0, .int .i64 0] 29));have mat1 := (MvAt.new (w.alloc (LHo h)) m 27).carry (below_new ((w.alloc (LHo h)).alloc (.cells #[.string m.name, .int .i64 m.to, .int .i64 m.spd, .int .i64 m.rise, .int .i64 m.fall] 27)) (.cells #[.int .i64 0, .int .i64 0] 29));have hf := FI.new ((w.alloc (LHo h)).alloc (.cells #[.string m.name, .int .i64 m.to, .int .i64 m.spd, .int .i64 m.rise, .int .i64 m.fall] 27)) 29;have hW0 := ((below_new w (LHo h)).alloc (by simp) (.cells #[.string m.name, .int .i64 m.to, .int .i64 m.spd, .int .i64 m.rise, .int .i64 m.fall] 27)).alloc (by simp <;> omega) (.cells #[.int .i64 0, .int .i64 0] 29);have hm1 : (w.alloc (LHo h)).heap.size = w.heap.size + 1 := by simp
  have hm2 : ((w.alloc (LHo h)).alloc (.cells #[.string m.name, .int .i64 m.to, .int .i64 m.spd, .int .i64 m.rise, .int .i64 m.fall] 27)).heap.size = w.heap.size + 1 + 1 := by simp
  rw [hm1] at mat1;rw [hm2] at hf;generalize (((w.alloc (LHo h)).alloc (.cells #[.string m.name, .int .i64 m.to, .int .i64 m.spd, .int .i64 m.rise, .int .i64 m.fall] 27)).alloc (.cells #[.int .i64 0, .int .i64 0] 29)) = W0 at *;have HAT := lh hat1;have MAT := lh mat1;clear hat1 mat1 hm1 hm2;obtain ⟨k0, k1, k2, k3⟩ := HAT.out;obtain ⟨m0, m1, m2, m3, m4⟩ := MAT.out
  go_wp2_with (first
   | (go_at_call 43; (with_reducible refine (HG.out _ hW0).mono ?_); rintro e w1 ⟨rfl, hb1⟩; clear k0 k1 k2 k3 m0 m1 m2 m3 m4; obtain ⟨m0, m1, m2, m3, m4⟩ := MAT.out.carry hb1; obtain ⟨q0, q1, q2, q3, q4⟩ := hf.carry hb1)
   | (go_at_call 47; (with_reducible refine (HTT.out _).mono ?_); rintro e w2 ⟨rfl, hb2⟩; clear q0 q1 q2 q3 q4; obtain ⟨q0, q1, q2, q3, q4⟩ := (hf.carry hb1).carry hb2))
  have l0 := (two_cells (v0 := .int .i64 P.1) (v1 := .int .i64 P.2) q0 q1).1;have l1 := (two_cells (v0 := .int .i64 P.1) (v1 := .int .i64 P.2) q0 q1).2;refine bodyPost_ret (v := .tuple #[.agg #[.int .i64 P.1, .int .i64 P.2], .int .i64 0]) (by simp [results, Tryz.results14, go_sem, l0, l1]) rfl ⟨rfl, ?_⟩;exact below_s _ _ (below_s _ _ (hW0.trans ((hb1.trans (hb2.mono hb1.size)).mono hW0.size)) (show w.heap.size ≤ w.heap.size + 1 + 1 by omega)) (show w.heap.size ≤ w.heap.size + 1 + 1 by omega)
 ·have HR : Hid (endP h f m t = (0, 0)) := lh (by unfold endP; rw [if_neg (by rw [he]; exact z)])
  rw [he, HR.out];have z1 : (e != 0) = true := by simpa using z
  clear z he hd ht
  go_enter Tryz.func14, Tryz.ntmps14
  go_upto_region 1 with (fail)
  have hat1 := ((HouseAt.new w h 25).carry (below_new (w.alloc (LHo h)) (.cells #[.string m.name, .int .i64 m.to, .int .i64 m.spd, .int .i64 m.rise, .int .i64 m.fall] 27))).carry (below_new ((w.alloc (LHo h)).alloc (.cells #[.string m.name, .int .i64 m.to, .int .i64 m.spd, .int .i64 m.rise, .int .i64 m.fall] 27)) (.cells #[.int .i64 0, .int .i64 0] 29));have mat1 := (MvAt.new (w.alloc (LHo h)) m 27).carry (below_new ((w.alloc (LHo h)).alloc (.cells #[.string m.name, .int .i64 m.to, .int .i64 m.spd, .int .i64 m.rise, .int .i64 m.fall] 27)) (.cells #[.int .i64 0, .int .i64 0] 29));have hf := FI.new ((w.alloc (LHo h)).alloc (.cells #[.string m.name, .int .i64 m.to, .int .i64 m.spd, .int .i64 m.rise, .int .i64 m.fall] 27)) 29;have hW0 := ((below_new w (LHo h)).alloc (by simp) (.cells #[.string m.name, .int .i64 m.to, .int .i64 m.spd, .int .i64 m.rise, .int .i64 m.fall] 27)).alloc (by simp <;> omega) (.cells #[.int .i64 0, .int .i64 0] 29);have hm1 : (w.alloc (LHo h)).heap.size = w.heap.size + 1 := by simp
  have hm2 : ((w.alloc (LHo h)).alloc (.cells #[.string m.name, .int .i64 m.to, .int .i64 m.spd, .int .i64 m.rise, .int .i64 m.fall] 27)).heap.size = w.heap.size + 1 + 1 := by simp
  rw [hm1] at mat1;rw [hm2] at hf;generalize (((w.alloc (LHo h)).alloc (.cells #[.string m.name, .int .i64 m.to, .int .i64 m.spd, .int .i64 m.rise, .int .i64 m.fall] 27)).alloc (.cells #[.int .i64 0, .int .i64 0] 29)) = W0 at *;have HAT := lh hat1;have MAT := lh mat1;clear hat1 mat1 hm1 hm2;obtain ⟨k0, k1, k2, k3⟩ := HAT.out;obtain ⟨m0, m1, m2, m3, m4⟩ := MAT.out
  go_wp2_with (go_at_call 43; (with_reducible refine (HG.out _ hW0).mono ?_); rintro e w1 ⟨rfl, hb1⟩; clear k0 k1 k2 k3 m0 m1 m2 m3 m4; obtain ⟨m0, m1, m2, m3, m4⟩ := MAT.out.carry hb1; obtain ⟨q0, q1, q2, q3, q4⟩ := hf.carry hb1)
  have l0 := (two_cells (v0 := .int .i64 0) (v1 := .int .i64 0) q0 q1).1;have l1 := (two_cells (v0 := .int .i64 0) (v1 := .int .i64 0) q0 q1).2;refine bodyPost_ret (v := .tuple #[.agg #[.int .i64 0, .int .i64 0], .int .i64 e]) (by simp [results, Tryz.results14, go_sem, l0, l1]) rfl ⟨rfl, ?_⟩;exact below_s _ _ (below_s _ _ (hW0.trans (hb1.mono hW0.size)) (show w.heap.size ≤ w.heap.size + 1 + 1 by omega)) (show w.heap.size ≤ w.heap.size + 1 + 1 by omega)
end
section
open Go.RowKit Go.Shelf
attribute [local go_sem] Oper.semAt_some
theorem mof_any (n : Int) (w : World) : Calls Tryz.prog 30 #[.int .i64 n] w fun e w' => e = .returned (.agg #[.int .i64 n, .int .i64 1]) ∧ Below w.heap.size w w' := by
 go_enter Tryz.func30, Tryz.ntmps30
 go_wp2_with fail
 refine bodyPost_ret (v := .agg #[.int .i64 n, .int .i64 1]) (by simp [results, Tryz.results30, go_sem]) rfl ⟨rfl, ?_⟩;exact below_new _ _
structure PB (w : World) (b : Nat) (p : Pc) : Prop where
 c0 : w.cell? ⟨b, 0, none⟩ = some (.int .i64 p.f0)
 c1 : w.cell? ⟨b, 1, none⟩ = some (.int .i64 p.f1)
 c2 : w.cell? ⟨b, 2, none⟩ = some (.int .i64 p.a0)
 c3 : w.cell? ⟨b, 3, none⟩ = some (.int .i64 p.a1)
 c4 : w.cell? ⟨b, 4, none⟩ = some (.int .i64 p.b0)
 c5 : w.cell? ⟨b, 5, none⟩ = some (.int .i64 p.b1)
 c6 : w.cell? ⟨b, 6, none⟩ = some (.int .i64 p.c0)
 c7 : w.cell? ⟨b, 7, none⟩ = some (.int .i64 p.c1)
 free : ∀ i, w.frozen? ⟨b, i, none⟩ = false
theorem PB.lt {w : World} {b : Nat} {p : Pc} (h : PB w b p) : b < w.heap.size := wl h.c0
theorem PB.carry {w w' : World} {b : Nat} {p : Pc} (h : PB w b p) (hb : Below w.heap.size w w') : PB w' b p :=
 ⟨(hb.cell (p := ⟨b, 0, none⟩) h.lt).trans h.c0, (hb.cell (p := ⟨b, 1, none⟩) h.lt).trans h.c1, (hb.cell (p := ⟨b, 2, none⟩) h.lt).trans h.c2, (hb.cell (p := ⟨b, 3, none⟩) h.lt).trans h.c3, (hb.cell (p := ⟨b, 4, none⟩) h.lt).trans h.c4, (hb.cell (p := ⟨b, 5, none⟩) h.lt).trans h.c5, (hb.cell (p := ⟨b, 6, none⟩) h.lt).trans h.c6, (hb.cell (p := ⟨b, 7, none⟩) h.lt).trans h.c7, fun i => (hb.frozen (p := ⟨b, i, none⟩) h.lt).trans (h.free i)⟩
theorem PB.new (w : World) (p : Pc) (t : TypeId) : PB (w.alloc (.cells #[.int .i64 p.f0, .int .i64 p.f1, .int .i64 p.a0, .int .i64 p.a1, .int .i64 p.b0, .int .i64 p.b1, .int .i64 p.c0, .int .i64 p.c1] t)) w.heap.size p :=
 ⟨by simp, by simp, by simp, by simp, by simp, by simp, by simp, by simp, fun i => by simp⟩
theorem PB.set {w : World} {b j : Nat} {p q : Pc} (h : PB w b p) (v : Value) (hj : j < 8) (hs : (0 = j → v = .int .i64 q.f0) ∧ (¬ 0 = j → q.f0 = p.f0) ∧ (1 = j → v = .int .i64 q.f1) ∧ (¬ 1 = j → q.f1 = p.f1) ∧ (2 = j → v = .int .i64 q.a0) ∧ (¬ 2 = j → q.a0 = p.a0) ∧ (3 = j → v = .int .i64 q.a1) ∧ (¬ 3 = j → q.a1 = p.a1) ∧ (4 = j → v = .int .i64 q.b0) ∧ (¬ 4 = j → q.b0 = p.b0) ∧ (5 = j → v = .int .i64 q.b1) ∧ (¬ 5 = j → q.b1 = p.b1) ∧ (6 = j → v = .int .i64 q.c0) ∧ (¬ 6 = j → q.c0 = p.c0) ∧ (7 = j → v = .int .i64 q.c1) ∧ (¬ 7 = j → q.c1 = p.c1)) : PB (w.setCell ⟨b, j, none⟩ v) b q := by
 obtain ⟨y0, n0, y1, n1, y2, n2, y3, n3, y4, n4, y5, n5, y6, n6, y7, n7⟩ := hs;have same : ∀ k u, w.cell? ⟨b, k, none⟩ = some u → k = j → (w.setCell ⟨b, j, none⟩ v).cell? ⟨b, k, none⟩ = some v := fun k u hu e => by subst e; exact World.cell?_setCell_same _ _ _ hu
 have other : ∀ k, ¬ k = j → (w.setCell ⟨b, j, none⟩ v).cell? ⟨b, k, none⟩ = w.cell? ⟨b, k, none⟩ := fun k e => World.cell?_setCell_other _ _ _ _ (fun x => e (congrArg Addr.off x).symm);refine ⟨?_, ?_, ?_, ?_, ?_, ?_, ?_, ?_, fun i => by simpa using h.free i⟩
 ·by_cases e : 0 = j
  ·rw [same 0 _ h.c0 e, y0 e]
  ·rw [other 0 e, h.c0, n0 e]
 ·by_cases e : 1 = j
  ·rw [same 1 _ h.c1 e, y1 e]
  ·rw [other 1 e, h.c1, n1 e]
 ·by_cases e : 2 = j
  ·rw [same 2 _ h.c2 e, y2 e]
  ·rw [other 2 e, h.c2, n2 e]
 ·by_cases e : 3 = j
  ·rw [same 3 _ h.c3 e, y3 e]
  ·rw [other 3 e, h.c3, n3 e]
 ·by_cases e : 4 = j
  ·rw [same 4 _ h.c4 e, y4 e]
  ·rw [other 4 e, h.c4, n4 e]
 ·by_cases e : 5 = j
  ·rw [same 5 _ h.c5 e, y5 e]
  ·rw [other 5 e, h.c5, n5 e]
 ·by_cases e : 6 = j
  ·rw [same 6 _ h.c6 e, y6 e]
  ·rw [other 6 e, h.c6, n6 e]
 ·by_cases e : 7 = j
  ·rw [same 7 _ h.c7 e, y7 e]
  ·rw [other 7 e, h.c7, n7 e]
theorem PB.far {w : World} {b b2 j : Nat} {p : Pc} (h : PB w b p) (hne : b ≠ b2) (v : Value) : PB (w.setCell ⟨b2, j, none⟩ v) b p :=
 ⟨(World.cell?_setCell_other _ _ _ _ (fun x => hne (congrArg Addr.block x).symm)).trans h.c0, (World.cell?_setCell_other _ _ _ _ (fun x => hne (congrArg Addr.block x).symm)).trans h.c1, (World.cell?_setCell_other _ _ _ _ (fun x => hne (congrArg Addr.block x).symm)).trans h.c2, (World.cell?_setCell_other _ _ _ _ (fun x => hne (congrArg Addr.block x).symm)).trans h.c3, (World.cell?_setCell_other _ _ _ _ (fun x => hne (congrArg Addr.block x).symm)).trans h.c4, (World.cell?_setCell_other _ _ _ _ (fun x => hne (congrArg Addr.block x).symm)).trans h.c5, (World.cell?_setCell_other _ _ _ _ (fun x => hne (congrArg Addr.block x).symm)).trans h.c6, (World.cell?_setCell_other _ _ _ _ (fun x => hne (congrArg Addr.block x).symm)).trans h.c7, fun i => by simpa using h.free i⟩
theorem pc_from (q : Pc) {w : World} {b : Nat} {p : Pc} (z : PB w b p) : (setFrom w b 0 [.int .i64 q.f0, .int .i64 q.f1, .int .i64 q.a0, .int .i64 q.a1, .int .i64 q.b0, .int .i64 q.b1, .int .i64 q.c0, .int .i64 q.c1]).cell? ⟨b, 0, none⟩ = some (.int .i64 q.f0) ∧ (setFrom w b 0 [.int .i64 q.f0, .int .i64 q.f1, .int .i64 q.a0, .int .i64 q.a1, .int .i64 q.b0, .int .i64 q.b1, .int .i64 q.c0, .int .i64 q.c1]).cell? ⟨b, 1, none⟩ = some (.int .i64 q.f1) ∧ (setFrom w b 0 [.int .i64 q.f0, .int .i64 q.f1, .int .i64 q.a0, .int .i64 q.a1, .int .i64 q.b0, .int .i64 q.b1, .int .i64 q.c0, .int .i64 q.c1]).cell? ⟨b, 2, none⟩ = some (.int .i64 q.a0) ∧ (setFrom w b 0 [.int .i64 q.f0, .int .i64 q.f1, .int .i64 q.a0, .int .i64 q.a1, .int .i64 q.b0, .int .i64 q.b1, .int .i64 q.c0, .int .i64 q.c1]).cell? ⟨b, 3, none⟩ = some (.int .i64 q.a1) ∧ (setFrom w b 0 [.int .i64 q.f0, .int .i64 q.f1, .int .i64 q.a0, .int .i64 q.a1, .int .i64 q.b0, .int .i64 q.b1, .int .i64 q.c0, .int .i64 q.c1]).cell? ⟨b, 4, none⟩ = some (.int .i64 q.b0) ∧ (setFrom w b 0 [.int .i64 q.f0, .int .i64 q.f1, .int .i64 q.a0, .int .i64 q.a1, .int .i64 q.b0, .int .i64 q.b1, .int .i64 q.c0, .int .i64 q.c1]).cell? ⟨b, 5, none⟩ = some (.int .i64 q.b1) ∧ (setFrom w b 0 [.int .i64 q.f0, .int .i64 q.f1, .int .i64 q.a0, .int .i64 q.a1, .int .i64 q.b0, .int .i64 q.b1, .int .i64 q.c0, .int .i64 q.c1]).cell? ⟨b, 6, none⟩ = some (.int .i64 q.c0) ∧ (setFrom w b 0 [.int .i64 q.f0, .int .i64 q.f1, .int .i64 q.a0, .int .i64 q.a1, .int .i64 q.b0, .int .i64 q.b1, .int .i64 q.c0, .int .i64 q.c1]).cell? ⟨b, 7, none⟩ = some (.int .i64 q.c1) := by
 have h : ∀ i, i < ([.int .i64 q.f0, .int .i64 q.f1, .int .i64 q.a0, .int .i64 q.a1, .int .i64 q.b0, .int .i64 q.b1, .int .i64 q.c0, .int .i64 q.c1] : List Value).length → (w.cell? ⟨b, 0 + i, none⟩).isSome = true := by
  intro i hi;have hi' : i < 8 := hi;rw [Nat.zero_add];obtain rfl | rfl | rfl | rfl | rfl | rfl | rfl | rfl : i = 0 ∨ i = 1 ∨ i = 2 ∨ i = 3 ∨ i = 4 ∨ i = 5 ∨ i = 6 ∨ i = 7 := by omega
  ·rw [z.c0]; rfl
  ·rw [z.c1]; rfl
  ·rw [z.c2]; rfl
  ·rw [z.c3]; rfl
  ·rw [z.c4]; rfl
  ·rw [z.c5]; rfl
  ·rw [z.c6]; rfl
  ·rw [z.c7]; rfl
 have r := read_from ([.int .i64 q.f0, .int .i64 q.f1, .int .i64 q.a0, .int .i64 q.a1, .int .i64 q.b0, .int .i64 q.b1, .int .i64 q.c0, .int .i64 q.c1] : List Value) w b 0 h;exact ⟨r 0 (by simp), r 1 (by simp), r 2 (by simp), r 3 (by simp), r 4 (by simp), r 5 (by simp), r 6 (by simp), r 7 (by simp)⟩
def upP (f : Int) (p : Pc) : Pc × Int := (⟨p.f0, p.f1, (addP f 1 p.a0 p.a1).1, (addP f 1 p.a0 p.a1).2.1, p.b0, p.b1, p.c0, p.c1⟩, (addP f 1 p.a0 p.a1).2.2)
theorem up_any (f : Int) (p : Pc) (f0 : -1152921504606846976 ≤ f) (f1 : f ≤ 1152921504606846976) (ha : validF p.a0 p.a1 = true) (w : World) :
  Calls Tryz.prog 45 #[.int .i64 f, .agg #[.int .i64 p.f0, .int .i64 p.f1, .int .i64 p.a0, .int .i64 p.a1, .int .i64 p.b0, .int .i64 p.b1, .int .i64 p.c0, .int .i64 p.c1]] w fun e w' => e = .returned (.tuple #[.agg #[.int .i64 (upP f p).1.f0, .int .i64 (upP f p).1.f1, .int .i64 (upP f p).1.a0, .int .i64 (upP f p).1.a1, .int .i64 (upP f p).1.b0, .int .i64 (upP f p).1.b1, .int .i64 (upP f p).1.c0, .int .i64 (upP f p).1.c1], .int .i64 (upP f p).2]) ∧ Below w.heap.size w w' := by
 obtain ⟨X, hX⟩ := nm (addP f 1 p.a0 p.a1);have vf : validF f 1 = true := (validF_iff _ _).2 ⟨by decide, by decide, f0, f1, by simp⟩;have HA0 := fun w => add_all f 1 p.a0 p.a1 vf ha w;have HR : Hid (upP f p = (⟨p.f0, p.f1, X.1, X.2.1, p.b0, p.b1, p.c0, p.c1⟩, X.2.2)) := lh (by unfold upP; rw [hX]);rw [hX] at HA0;have HA := lh HA0;rw [HR.out];clear HA0 hX vf ha
 go_enter Tryz.func45, Tryz.ntmps45
 go_upto_region 1 with (fail)
 have hp := (PB.new w p 81).carry (below_new (w.alloc (.cells #[.int .i64 p.f0, .int .i64 p.f1, .int .i64 p.a0, .int .i64 p.a1, .int .i64 p.b0, .int .i64 p.b1, .int .i64 p.c0, .int .i64 p.c1] 81)) (.cells #[.int .i64 0, .int .i64 0, .int .i64 0, .int .i64 0, .int .i64 0, .int .i64 0, .int .i64 0, .int .i64 0] 81));have hr := PB.new (w.alloc (.cells #[.int .i64 p.f0, .int .i64 p.f1, .int .i64 p.a0, .int .i64 p.a1, .int .i64 p.b0, .int .i64 p.b1, .int .i64 p.c0, .int .i64 p.c1] 81)) ⟨0, 0, 0, 0, 0, 0, 0, 0⟩ 81;have hm1 : (w.alloc (.cells #[.int .i64 p.f0, .int .i64 p.f1, .int .i64 p.a0, .int .i64 p.a1, .int .i64 p.b0, .int .i64 p.b1, .int .i64 p.c0, .int .i64 p.c1] 81)).heap.size = w.heap.size + 1 := by simp
 have hW0 := (below_new w (.cells #[.int .i64 p.f0, .int .i64 p.f1, .int .i64 p.a0, .int .i64 p.a1, .int .i64 p.b0, .int .i64 p.b1, .int .i64 p.c0, .int .i64 p.c1] 81)).alloc (by simp) (.cells #[.int .i64 0, .int .i64 0, .int .i64 0, .int .i64 0, .int .i64 0, .int .i64 0, .int .i64 0, .int .i64 0] 81);rw [hm1] at hr;generalize ((w.alloc (.cells #[.int .i64 p.f0, .int .i64 p.f1, .int .i64 p.a0, .int .i64 p.a1, .int .i64 p.b0, .int .i64 p.b1, .int .i64 p.c0, .int .i64 p.c1] 81)).alloc (.cells #[.int .i64 0, .int .i64 0, .int .i64 0, .int .i64 0, .int .i64 0, .int .i64 0, .int .i64 0, .int .i64 0] 81)) = W0 at *;have HP := lh hp;have HRR := lh hr;have hs1 := hp.lt;have hs2 := hr.lt;have HS : Hid (∀ w', Below W0.heap.size W0 w' → W0.heap.size ≤ w'.heap.size ∧ w'.cell? ⟨w.heap.size, 2, none⟩ = some (.int .i64 p.a0) ∧ w'.cell? ⟨w.heap.size, 3, none⟩ = some (.int .i64 p.a1)) := lh fun w' q => ⟨q.size, (hp.carry q).c2, (hp.carry q).c3⟩;clear hp hr hm1;refine wp_region_noPanic ?_;refine wp_region_held_drew (S := fun w' => W0.heap.size ≤ w'.heap.size ∧ w'.cell? ⟨w.heap.size, 2, none⟩ = some (.int .i64 p.a0) ∧ w'.cell? ⟨w.heap.size, 3, none⟩ = some (.int .i64 p.a1)) (by kernel_rfl) (HS.out _ (br).drew) (fun hHeld => ?_);have hB0 := (Below.refl W0.heap.size W0).drew;obtain ⟨w0, hw0⟩ := nm (W0.drew);simp only [hw0] at hB0 hHeld ⊢;clear hw0;refine tkA 0 ?_;simp only [Act.put, s_1, s_2, s_3];refine tkA 2 ?_;simp only [Act.put, s_1, s_2, s_3];refine tkA 3 ?_;simp only [Act.put, s_1, s_2, s_3];refine rq [1, 8] ?_;refine tkC (fun K hK => ?_) (tkC (fun K hK => ?_) (AllReadyH.nil))
 ·go_simp
  (go_at_call 30; go_split_ands; (with_reducible refine (mof_any f _).mono ?_); rintro e w1 ⟨rfl, hb1⟩)
  go_wp2_with fail
  have hB1 := hB0.trans (hb1.mono hB0.size);refine hK.out _ _ (HS.out _ hB1) (fun hHeld => ?_);clear hK K
  try simp only [Act.put, s_1, s_2, s_3]
  refine rq [4, 8] ?_;refine tkC (fun K hK => ?_) (tkC (fun K hK => ?_) (AllReadyH.nil))
  focus
   go_simp
   (go_at_call 31; go_split_ands; (with_reducible refine (HA.out _).mono ?_); rintro e w2 ⟨rfl, hb2⟩)
   go_wp2_with fail
   have hB2 := hB1.trans (hb2.mono hB1.size);refine hK.out _ _ (HS.out _ hB2) (fun hHeld => ?_);clear hK K
   try simp only [Act.put, s_1, s_2, s_3]
   refine tkA 5 ?_;simp only [Act.put, s_1, s_2, s_3];refine tkA 6 ?_;simp only [Act.put, s_1, s_2, s_3];refine tkA 7 ?_;simp only [Act.put, s_1, s_2, s_3];refine rq [8] ?_;refine tkC (fun K hK => ?_) (AllReadyH.nil);rw [if_pos (by rfl)];go_split_ands
   go_wp2_with fail
   have hB3 := below_a (.cells #[.int .i64 0, .int .i64 0] 29) hB2;have FBy := FI.new w2 29;obtain ⟨By, hBy⟩ := nm (w2.heap.size);have hloBy : W0.heap.size ≤ By := by have := hB2.size; omega
   simp only [hBy] at FBy ⊢;generalize w2.alloc (.cells #[.int .i64 0, .int .i64 0] 29) = w3 at *;refine hK.out _ _ (HS.out _ hB3) (fun hHeld => ?_);clear hK K
   try simp only [Act.put, s_1, s_2, s_3]
   have bltBy := FBy.2.2.2.2
  rotate_left
  focus
   rw [if_pos (by rfl)];go_split_ands
   go_wp2_with fail
   have hB2 := below_a (.cells #[.int .i64 0, .int .i64 0] 29) hB1;have FBy := FI.new w1 29;obtain ⟨By, hBy⟩ := nm (w1.heap.size);have hloBy : W0.heap.size ≤ By := by have := hB1.size; omega
   simp only [hBy] at FBy ⊢;generalize w1.alloc (.cells #[.int .i64 0, .int .i64 0] 29) = w2 at *;refine hK.out _ _ (HS.out _ hB2) (fun hHeld => ?_);clear hK K
   try simp only [Act.put, s_1, s_2, s_3]
   have bltBy := FBy.2.2.2.2;refine rq [4] ?_;refine tkC (fun K hK => ?_) (AllReadyH.nil)
   go_simp
   (go_at_call 31; go_split_ands; (with_reducible refine (HA.out _).mono ?_); rintro e w3 ⟨rfl, hb3⟩)
   go_wp2_with fail
   have hB3 := hB2.trans (hb3.mono hB2.size);have FBy := FBy.carry hb3;refine hK.out _ _ (HS.out _ hB3) (fun hHeld => ?_);clear hK K
   try simp only [Act.put, s_1, s_2, s_3]
   have bltBy := FBy.2.2.2.2;refine tkA 5 ?_;simp only [Act.put, s_1, s_2, s_3];refine tkA 6 ?_;simp only [Act.put, s_1, s_2, s_3];refine tkA 7 ?_;simp only [Act.put, s_1, s_2, s_3]
  rotate_left
  all_goals
   refine rq [9] ?_;refine tkC (fun K hK => ?_) (AllReadyH.nil);rw [if_pos (by rfl)];go_split_ands;obtain ⟨fa, fb, fc, fd, fe⟩ := FBy
   go_wp2_with fail
   have hB4 := below_s ⟨By, 1, none⟩ (.int .i64 (X.2.1)) (below_s ⟨By, 0, none⟩ (.int .i64 (X.1)) hB3 hloBy) hloBy;have FBy := FI.set ⟨fa, fb, fc, fd, fe⟩ (X.1) (X.2.1);clear fa fb fc fd fe;generalize ((w3.setCell ⟨By, 0, none⟩ (.int .i64 (X.1))).setCell ⟨By, 1, none⟩ (.int .i64 (X.2.1))) = w4 at *;refine hK.out _ _ (HS.out _ hB4) (fun hHeld => ?_);clear hK K
   try simp only [Act.put, s_1, s_2, s_3]
   have bltBy := FBy.2.2.2.2;refine tkA 10 ?_;simp only [Act.put, s_1, s_2, s_3];refine wpAnyH_done (by kernel_rfl) ?_ _;have hB := hB4;refine NoPanic.normal ?_;have t0 := FBy.1;have t1 := FBy.2.1;have HRX := lh (HRR.out.carry hB);obtain ⟨p0, p1, p2, p3, p4, p5, p6, p7, pf⟩ := HP.out.carry hB;obtain ⟨r0, r1, r2, r3, r4, r5, r6, r7, rf⟩ := HRX.out
   go_wp2_with fail
   have hq := pc_from ⟨p.f0, p.f1, X.1, X.2.1, p.b0, p.b1, p.c0, p.c1⟩ ((HRX.out.far (b2 := w.heap.size) (j := 2) (by omega) (.int .i64 X.1)).far (b2 := w.heap.size) (j := 3) (by omega) (.int .i64 X.2.1));have hBB := below_from (m := w.heap.size) (b := w.heap.size + 1) (W := w) [.int .i64 p.f0, .int .i64 p.f1, .int .i64 X.1, .int .i64 X.2.1, .int .i64 p.b0, .int .i64 p.b1, .int .i64 p.c0, .int .i64 p.c1] _ 0 (below_s ⟨w.heap.size, 3, none⟩ (.int .i64 X.2.1) (below_s ⟨w.heap.size, 2, none⟩ (.int .i64 X.1) (hW0.trans (hB.mono hW0.size)) (Nat.le_refl _)) (Nat.le_refl _)) (Nat.le_succ _);show bodyPost _ _ _ Exit.ret _ (setFrom ((w4.setCell ⟨w.heap.size, 2, none⟩ (.int .i64 X.1)).setCell ⟨w.heap.size, 3, none⟩ (.int .i64 X.2.1)) (w.heap.size + 1) 0 [.int .i64 p.f0, .int .i64 p.f1, .int .i64 X.1, .int .i64 X.2.1, .int .i64 p.b0, .int .i64 p.b1, .int .i64 p.c0, .int .i64 p.c1]);have hq : (setFrom ((w4.setCell ⟨w.heap.size, 2, none⟩ (.int .i64 X.1)).setCell ⟨w.heap.size, 3, none⟩ (.int .i64 X.2.1)) (w.heap.size + 1) 0 [.int .i64 p.f0, .int .i64 p.f1, .int .i64 X.1, .int .i64 X.2.1, .int .i64 p.b0, .int .i64 p.b1, .int .i64 p.c0, .int .i64 p.c1]).cell? ⟨w.heap.size + 1, 0, none⟩ = some (.int .i64 p.f0) ∧ (setFrom ((w4.setCell ⟨w.heap.size, 2, none⟩ (.int .i64 X.1)).setCell ⟨w.heap.size, 3, none⟩ (.int .i64 X.2.1)) (w.heap.size + 1) 0 [.int .i64 p.f0, .int .i64 p.f1, .int .i64 X.1, .int .i64 X.2.1, .int .i64 p.b0, .int .i64 p.b1, .int .i64 p.c0, .int .i64 p.c1]).cell? ⟨w.heap.size + 1, 1, none⟩ = some (.int .i64 p.f1) ∧ (setFrom ((w4.setCell ⟨w.heap.size, 2, none⟩ (.int .i64 X.1)).setCell ⟨w.heap.size, 3, none⟩ (.int .i64 X.2.1)) (w.heap.size + 1) 0 [.int .i64 p.f0, .int .i64 p.f1, .int .i64 X.1, .int .i64 X.2.1, .int .i64 p.b0, .int .i64 p.b1, .int .i64 p.c0, .int .i64 p.c1]).cell? ⟨w.heap.size + 1, 2, none⟩ = some (.int .i64 X.1) ∧ (setFrom ((w4.setCell ⟨w.heap.size, 2, none⟩ (.int .i64 X.1)).setCell ⟨w.heap.size, 3, none⟩ (.int .i64 X.2.1)) (w.heap.size + 1) 0 [.int .i64 p.f0, .int .i64 p.f1, .int .i64 X.1, .int .i64 X.2.1, .int .i64 p.b0, .int .i64 p.b1, .int .i64 p.c0, .int .i64 p.c1]).cell? ⟨w.heap.size + 1, 3, none⟩ = some (.int .i64 X.2.1) ∧ (setFrom ((w4.setCell ⟨w.heap.size, 2, none⟩ (.int .i64 X.1)).setCell ⟨w.heap.size, 3, none⟩ (.int .i64 X.2.1)) (w.heap.size + 1) 0 [.int .i64 p.f0, .int .i64 p.f1, .int .i64 X.1, .int .i64 X.2.1, .int .i64 p.b0, .int .i64 p.b1, .int .i64 p.c0, .int .i64 p.c1]).cell? ⟨w.heap.size + 1, 4, none⟩ = some (.int .i64 p.b0) ∧ (setFrom ((w4.setCell ⟨w.heap.size, 2, none⟩ (.int .i64 X.1)).setCell ⟨w.heap.size, 3, none⟩ (.int .i64 X.2.1)) (w.heap.size + 1) 0 [.int .i64 p.f0, .int .i64 p.f1, .int .i64 X.1, .int .i64 X.2.1, .int .i64 p.b0, .int .i64 p.b1, .int .i64 p.c0, .int .i64 p.c1]).cell? ⟨w.heap.size + 1, 5, none⟩ = some (.int .i64 p.b1) ∧ (setFrom ((w4.setCell ⟨w.heap.size, 2, none⟩ (.int .i64 X.1)).setCell ⟨w.heap.size, 3, none⟩ (.int .i64 X.2.1)) (w.heap.size + 1) 0 [.int .i64 p.f0, .int .i64 p.f1, .int .i64 X.1, .int .i64 X.2.1, .int .i64 p.b0, .int .i64 p.b1, .int .i64 p.c0, .int .i64 p.c1]).cell? ⟨w.heap.size + 1, 6, none⟩ = some (.int .i64 p.c0) ∧ (setFrom ((w4.setCell ⟨w.heap.size, 2, none⟩ (.int .i64 X.1)).setCell ⟨w.heap.size, 3, none⟩ (.int .i64 X.2.1)) (w.heap.size + 1) 0 [.int .i64 p.f0, .int .i64 p.f1, .int .i64 X.1, .int .i64 X.2.1, .int .i64 p.b0, .int .i64 p.b1, .int .i64 p.c0, .int .i64 p.c1]).cell? ⟨w.heap.size + 1, 7, none⟩ = some (.int .i64 p.c1) := hq
   generalize setFrom ((w4.setCell ⟨w.heap.size, 2, none⟩ (.int .i64 X.1)).setCell ⟨w.heap.size, 3, none⟩ (.int .i64 X.2.1)) (w.heap.size + 1) 0 [.int .i64 p.f0, .int .i64 p.f1, .int .i64 X.1, .int .i64 X.2.1, .int .i64 p.b0, .int .i64 p.b1, .int .i64 p.c0, .int .i64 p.c1] = WF at *;obtain ⟨g0, g1, g2, g3, g4, g5, g6, g7⟩ := hq;exact bodyPost_ret (v := .tuple #[.agg #[.int .i64 p.f0, .int .i64 p.f1, .int .i64 X.1, .int .i64 X.2.1, .int .i64 p.b0, .int .i64 p.b1, .int .i64 p.c0, .int .i64 p.c1], .int .i64 X.2.2]) (by simp [results, Tryz.results45, go_sem, g0, g1, g2, g3, g4, g5, g6, g7]) rfl ⟨rfl, hBB⟩
 ·rw [if_pos (by rfl)]
  go_split_ands
  go_wp2_with fail
  have hB1 := below_a (.cells #[.int .i64 0, .int .i64 0] 29) hB0;have FBy := FI.new w0 29;obtain ⟨By, hBy⟩ := nm (w0.heap.size);have hloBy : W0.heap.size ≤ By := by have := hB0.size; omega
  simp only [hBy] at FBy ⊢;generalize w0.alloc (.cells #[.int .i64 0, .int .i64 0] 29) = w1 at *;refine hK.out _ _ (HS.out _ hB1) (fun hHeld => ?_);clear hK K
  try simp only [Act.put, s_1, s_2, s_3]
  have bltBy := FBy.2.2.2.2;refine rq [1] ?_;refine tkC (fun K hK => ?_) (AllReadyH.nil)
  go_simp
  (go_at_call 30; go_split_ands; (with_reducible refine (mof_any f _).mono ?_); rintro e w2 ⟨rfl, hb2⟩)
  go_wp2_with fail
  have hB2 := hB1.trans (hb2.mono hB1.size);have FBy := FBy.carry hb2;refine hK.out _ _ (HS.out _ hB2) (fun hHeld => ?_);clear hK K
  try simp only [Act.put, s_1, s_2, s_3]
  have bltBy := FBy.2.2.2.2;refine rq [4] ?_;refine tkC (fun K hK => ?_) (AllReadyH.nil)
  go_simp
  (go_at_call 31; go_split_ands; (with_reducible refine (HA.out _).mono ?_); rintro e w3 ⟨rfl, hb3⟩)
  go_wp2_with fail
  have hB3 := hB2.trans (hb3.mono hB2.size);have FBy := FBy.carry hb3;refine hK.out _ _ (HS.out _ hB3) (fun hHeld => ?_);clear hK K
  try simp only [Act.put, s_1, s_2, s_3]
  have bltBy := FBy.2.2.2.2;refine tkA 5 ?_;simp only [Act.put, s_1, s_2, s_3];refine tkA 6 ?_;simp only [Act.put, s_1, s_2, s_3];refine tkA 7 ?_;simp only [Act.put, s_1, s_2, s_3];refine rq [9] ?_;refine tkC (fun K hK => ?_) (AllReadyH.nil);rw [if_pos (by rfl)];go_split_ands;obtain ⟨fa, fb, fc, fd, fe⟩ := FBy
  go_wp2_with fail
  have hB4 := below_s ⟨By, 1, none⟩ (.int .i64 (X.2.1)) (below_s ⟨By, 0, none⟩ (.int .i64 (X.1)) hB3 hloBy) hloBy;have FBy := FI.set ⟨fa, fb, fc, fd, fe⟩ (X.1) (X.2.1);clear fa fb fc fd fe;generalize ((w3.setCell ⟨By, 0, none⟩ (.int .i64 (X.1))).setCell ⟨By, 1, none⟩ (.int .i64 (X.2.1))) = w4 at *;refine hK.out _ _ (HS.out _ hB4) (fun hHeld => ?_);clear hK K
  try simp only [Act.put, s_1, s_2, s_3]
  have bltBy := FBy.2.2.2.2;refine tkA 10 ?_;simp only [Act.put, s_1, s_2, s_3];refine wpAnyH_done (by kernel_rfl) ?_ _;have hB := hB4;refine NoPanic.normal ?_;have t0 := FBy.1;have t1 := FBy.2.1;have HRX := lh (HRR.out.carry hB);obtain ⟨p0, p1, p2, p3, p4, p5, p6, p7, pf⟩ := HP.out.carry hB;obtain ⟨r0, r1, r2, r3, r4, r5, r6, r7, rf⟩ := HRX.out
  go_wp2_with fail
  have hq := pc_from ⟨p.f0, p.f1, X.1, X.2.1, p.b0, p.b1, p.c0, p.c1⟩ ((HRX.out.far (b2 := w.heap.size) (j := 2) (by omega) (.int .i64 X.1)).far (b2 := w.heap.size) (j := 3) (by omega) (.int .i64 X.2.1));have hBB := below_from (m := w.heap.size) (b := w.heap.size + 1) (W := w) [.int .i64 p.f0, .int .i64 p.f1, .int .i64 X.1, .int .i64 X.2.1, .int .i64 p.b0, .int .i64 p.b1, .int .i64 p.c0, .int .i64 p.c1] _ 0 (below_s ⟨w.heap.size, 3, none⟩ (.int .i64 X.2.1) (below_s ⟨w.heap.size, 2, none⟩ (.int .i64 X.1) (hW0.trans (hB.mono hW0.size)) (Nat.le_refl _)) (Nat.le_refl _)) (Nat.le_succ _);show bodyPost _ _ _ Exit.ret _ (setFrom ((w4.setCell ⟨w.heap.size, 2, none⟩ (.int .i64 X.1)).setCell ⟨w.heap.size, 3, none⟩ (.int .i64 X.2.1)) (w.heap.size + 1) 0 [.int .i64 p.f0, .int .i64 p.f1, .int .i64 X.1, .int .i64 X.2.1, .int .i64 p.b0, .int .i64 p.b1, .int .i64 p.c0, .int .i64 p.c1]);have hq : (setFrom ((w4.setCell ⟨w.heap.size, 2, none⟩ (.int .i64 X.1)).setCell ⟨w.heap.size, 3, none⟩ (.int .i64 X.2.1)) (w.heap.size + 1) 0 [.int .i64 p.f0, .int .i64 p.f1, .int .i64 X.1, .int .i64 X.2.1, .int .i64 p.b0, .int .i64 p.b1, .int .i64 p.c0, .int .i64 p.c1]).cell? ⟨w.heap.size + 1, 0, none⟩ = some (.int .i64 p.f0) ∧ (setFrom ((w4.setCell ⟨w.heap.size, 2, none⟩ (.int .i64 X.1)).setCell ⟨w.heap.size, 3, none⟩ (.int .i64 X.2.1)) (w.heap.size + 1) 0 [.int .i64 p.f0, .int .i64 p.f1, .int .i64 X.1, .int .i64 X.2.1, .int .i64 p.b0, .int .i64 p.b1, .int .i64 p.c0, .int .i64 p.c1]).cell? ⟨w.heap.size + 1, 1, none⟩ = some (.int .i64 p.f1) ∧ (setFrom ((w4.setCell ⟨w.heap.size, 2, none⟩ (.int .i64 X.1)).setCell ⟨w.heap.size, 3, none⟩ (.int .i64 X.2.1)) (w.heap.size + 1) 0 [.int .i64 p.f0, .int .i64 p.f1, .int .i64 X.1, .int .i64 X.2.1, .int .i64 p.b0, .int .i64 p.b1, .int .i64 p.c0, .int .i64 p.c1]).cell? ⟨w.heap.size + 1, 2, none⟩ = some (.int .i64 X.1) ∧ (setFrom ((w4.setCell ⟨w.heap.size, 2, none⟩ (.int .i64 X.1)).setCell ⟨w.heap.size, 3, none⟩ (.int .i64 X.2.1)) (w.heap.size + 1) 0 [.int .i64 p.f0, .int .i64 p.f1, .int .i64 X.1, .int .i64 X.2.1, .int .i64 p.b0, .int .i64 p.b1, .int .i64 p.c0, .int .i64 p.c1]).cell? ⟨w.heap.size + 1, 3, none⟩ = some (.int .i64 X.2.1) ∧ (setFrom ((w4.setCell ⟨w.heap.size, 2, none⟩ (.int .i64 X.1)).setCell ⟨w.heap.size, 3, none⟩ (.int .i64 X.2.1)) (w.heap.size + 1) 0 [.int .i64 p.f0, .int .i64 p.f1, .int .i64 X.1, .int .i64 X.2.1, .int .i64 p.b0, .int .i64 p.b1, .int .i64 p.c0, .int .i64 p.c1]).cell? ⟨w.heap.size + 1, 4, none⟩ = some (.int .i64 p.b0) ∧ (setFrom ((w4.setCell ⟨w.heap.size, 2, none⟩ (.int .i64 X.1)).setCell ⟨w.heap.size, 3, none⟩ (.int .i64 X.2.1)) (w.heap.size + 1) 0 [.int .i64 p.f0, .int .i64 p.f1, .int .i64 X.1, .int .i64 X.2.1, .int .i64 p.b0, .int .i64 p.b1, .int .i64 p.c0, .int .i64 p.c1]).cell? ⟨w.heap.size + 1, 5, none⟩ = some (.int .i64 p.b1) ∧ (setFrom ((w4.setCell ⟨w.heap.size, 2, none⟩ (.int .i64 X.1)).setCell ⟨w.heap.size, 3, none⟩ (.int .i64 X.2.1)) (w.heap.size + 1) 0 [.int .i64 p.f0, .int .i64 p.f1, .int .i64 X.1, .int .i64 X.2.1, .int .i64 p.b0, .int .i64 p.b1, .int .i64 p.c0, .int .i64 p.c1]).cell? ⟨w.heap.size + 1, 6, none⟩ = some (.int .i64 p.c0) ∧ (setFrom ((w4.setCell ⟨w.heap.size, 2, none⟩ (.int .i64 X.1)).setCell ⟨w.heap.size, 3, none⟩ (.int .i64 X.2.1)) (w.heap.size + 1) 0 [.int .i64 p.f0, .int .i64 p.f1, .int .i64 X.1, .int .i64 X.2.1, .int .i64 p.b0, .int .i64 p.b1, .int .i64 p.c0, .int .i64 p.c1]).cell? ⟨w.heap.size + 1, 7, none⟩ = some (.int .i64 p.c1) := hq
  generalize setFrom ((w4.setCell ⟨w.heap.size, 2, none⟩ (.int .i64 X.1)).setCell ⟨w.heap.size, 3, none⟩ (.int .i64 X.2.1)) (w.heap.size + 1) 0 [.int .i64 p.f0, .int .i64 p.f1, .int .i64 X.1, .int .i64 X.2.1, .int .i64 p.b0, .int .i64 p.b1, .int .i64 p.c0, .int .i64 p.c1] = WF at *;obtain ⟨g0, g1, g2, g3, g4, g5, g6, g7⟩ := hq;exact bodyPost_ret (v := .tuple #[.agg #[.int .i64 p.f0, .int .i64 p.f1, .int .i64 X.1, .int .i64 X.2.1, .int .i64 p.b0, .int .i64 p.b1, .int .i64 p.c0, .int .i64 p.c1], .int .i64 X.2.2]) (by simp [results, Tryz.results45, go_sem, g0, g1, g2, g3, g4, g5, g6, g7]) rfl ⟨rfl, hBB⟩
def downP (f : Int) (p : Pc) : Pc × Int := (⟨p.f0, p.f1, (addP f 1 (-p.a0) p.a1).1, (addP f 1 (-p.a0) p.a1).2.1, -p.b0, p.b1, -p.c0, p.c1⟩, (addP f 1 (-p.a0) p.a1).2.2)
theorem down_any (f : Int) (p : Pc) (f0 : -1152921504606846976 ≤ f) (f1 : f ≤ 1152921504606846976) (ha : validF p.a0 p.a1 = true) (hb : -1152921504606846976 ≤ p.b0 ∧ p.b0 ≤ 1152921504606846976) (hc : -1152921504606846976 ≤ p.c0 ∧ p.c0 ≤ 1152921504606846976) (w : World) :
  Calls Tryz.prog 46 #[.int .i64 f, .agg #[.int .i64 p.f0, .int .i64 p.f1, .int .i64 p.a0, .int .i64 p.a1, .int .i64 p.b0, .int .i64 p.b1, .int .i64 p.c0, .int .i64 p.c1]] w fun e w' => e = .returned (.tuple #[.agg #[.int .i64 (downP f p).1.f0, .int .i64 (downP f p).1.f1, .int .i64 (downP f p).1.a0, .int .i64 (downP f p).1.a1, .int .i64 (downP f p).1.b0, .int .i64 (downP f p).1.b1, .int .i64 (downP f p).1.c0, .int .i64 (downP f p).1.c1], .int .i64 (downP f p).2]) ∧ Below w.heap.size w w' := by
 obtain ⟨X, hX⟩ := nm (addP f 1 (-p.a0) p.a1);have vf : validF f 1 = true := (validF_iff _ _).2 ⟨by decide, by decide, f0, f1, by simp⟩;have HA0 := fun w => sub_all f 1 p.a0 p.a1 vf ha w;have HR : Hid (downP f p = (⟨p.f0, p.f1, X.1, X.2.1, -p.b0, p.b1, -p.c0, p.c1⟩, X.2.2)) := lh (by unfold downP; rw [hX]);rw [hX] at HA0;have HA := lh HA0;rw [HR.out];have wb : IntKind.i64.wrap (-p.b0) = -p.b0 := IntWalk.i64_in _ (by omega);have wc : IntKind.i64.wrap (-p.c0) = -p.c0 := IntWalk.i64_in _ (by omega);clear HA0 hX vf ha
 go_enter Tryz.func46, Tryz.ntmps46
 go_upto_region 1 with (fail)
 have hp := (PB.new w p 81).carry (below_new (w.alloc (.cells #[.int .i64 p.f0, .int .i64 p.f1, .int .i64 p.a0, .int .i64 p.a1, .int .i64 p.b0, .int .i64 p.b1, .int .i64 p.c0, .int .i64 p.c1] 81)) (.cells #[.int .i64 0, .int .i64 0, .int .i64 0, .int .i64 0, .int .i64 0, .int .i64 0, .int .i64 0, .int .i64 0] 81));have hr := PB.new (w.alloc (.cells #[.int .i64 p.f0, .int .i64 p.f1, .int .i64 p.a0, .int .i64 p.a1, .int .i64 p.b0, .int .i64 p.b1, .int .i64 p.c0, .int .i64 p.c1] 81)) ⟨0, 0, 0, 0, 0, 0, 0, 0⟩ 81;have hm1 : (w.alloc (.cells #[.int .i64 p.f0, .int .i64 p.f1, .int .i64 p.a0, .int .i64 p.a1, .int .i64 p.b0, .int .i64 p.b1, .int .i64 p.c0, .int .i64 p.c1] 81)).heap.size = w.heap.size + 1 := by simp
 have hW0 := (below_new w (.cells #[.int .i64 p.f0, .int .i64 p.f1, .int .i64 p.a0, .int .i64 p.a1, .int .i64 p.b0, .int .i64 p.b1, .int .i64 p.c0, .int .i64 p.c1] 81)).alloc (by simp) (.cells #[.int .i64 0, .int .i64 0, .int .i64 0, .int .i64 0, .int .i64 0, .int .i64 0, .int .i64 0, .int .i64 0] 81);rw [hm1] at hr;generalize ((w.alloc (.cells #[.int .i64 p.f0, .int .i64 p.f1, .int .i64 p.a0, .int .i64 p.a1, .int .i64 p.b0, .int .i64 p.b1, .int .i64 p.c0, .int .i64 p.c1] 81)).alloc (.cells #[.int .i64 0, .int .i64 0, .int .i64 0, .int .i64 0, .int .i64 0, .int .i64 0, .int .i64 0, .int .i64 0] 81)) = W0 at *;have HP := lh hp;have HRR := lh hr;have hs1 := hp.lt;have hs2 := hr.lt;have HS : Hid (∀ w', Below W0.heap.size W0 w' → W0.heap.size ≤ w'.heap.size ∧ w'.cell? ⟨w.heap.size, 2, none⟩ = some (.int .i64 p.a0) ∧ w'.cell? ⟨w.heap.size, 3, none⟩ = some (.int .i64 p.a1)) := lh fun w' q => ⟨q.size, (hp.carry q).c2, (hp.carry q).c3⟩;clear hp hr hm1;refine wp_region_noPanic ?_;refine wp_region_held_drew (S := fun w' => W0.heap.size ≤ w'.heap.size ∧ w'.cell? ⟨w.heap.size, 2, none⟩ = some (.int .i64 p.a0) ∧ w'.cell? ⟨w.heap.size, 3, none⟩ = some (.int .i64 p.a1)) (by kernel_rfl) (HS.out _ (br).drew) (fun hHeld => ?_);have hB0 := (Below.refl W0.heap.size W0).drew;obtain ⟨w0, hw0⟩ := nm (W0.drew);simp only [hw0] at hB0 hHeld ⊢;clear hw0;refine tkA 0 ?_;simp only [Act.put, s_1, s_2, s_3];refine tkA 2 ?_;simp only [Act.put, s_1, s_2, s_3];refine tkA 3 ?_;simp only [Act.put, s_1, s_2, s_3];refine rq [1, 8] ?_;refine tkC (fun K hK => ?_) (tkC (fun K hK => ?_) (AllReadyH.nil))
 ·go_simp
  (go_at_call 30; go_split_ands; (with_reducible refine (mof_any f _).mono ?_); rintro e w1 ⟨rfl, hb1⟩)
  go_wp2_with fail
  have hB1 := hB0.trans (hb1.mono hB0.size);refine hK.out _ _ (HS.out _ hB1) (fun hHeld => ?_);clear hK K
  try simp only [Act.put, s_1, s_2, s_3]
  refine rq [4, 8] ?_;refine tkC (fun K hK => ?_) (tkC (fun K hK => ?_) (AllReadyH.nil))
  focus
   go_simp
   (go_at_call 32; go_split_ands; (with_reducible refine (HA.out _).mono ?_); rintro e w2 ⟨rfl, hb2⟩)
   go_wp2_with fail
   have hB2 := hB1.trans (hb2.mono hB1.size);refine hK.out _ _ (HS.out _ hB2) (fun hHeld => ?_);clear hK K
   try simp only [Act.put, s_1, s_2, s_3]
   refine tkA 5 ?_;simp only [Act.put, s_1, s_2, s_3];refine tkA 6 ?_;simp only [Act.put, s_1, s_2, s_3];refine tkA 7 ?_;simp only [Act.put, s_1, s_2, s_3];refine rq [8] ?_;refine tkC (fun K hK => ?_) (AllReadyH.nil);rw [if_pos (by rfl)];go_split_ands
   go_wp2_with fail
   have hB3 := below_a (.cells #[.int .i64 0, .int .i64 0] 29) hB2;have FBy := FI.new w2 29;obtain ⟨By, hBy⟩ := nm (w2.heap.size);have hloBy : W0.heap.size ≤ By := by have := hB2.size; omega
   simp only [hBy] at FBy ⊢;generalize w2.alloc (.cells #[.int .i64 0, .int .i64 0] 29) = w3 at *;refine hK.out _ _ (HS.out _ hB3) (fun hHeld => ?_);clear hK K
   try simp only [Act.put, s_1, s_2, s_3]
   have bltBy := FBy.2.2.2.2
  rotate_left
  focus
   rw [if_pos (by rfl)];go_split_ands
   go_wp2_with fail
   have hB2 := below_a (.cells #[.int .i64 0, .int .i64 0] 29) hB1;have FBy := FI.new w1 29;obtain ⟨By, hBy⟩ := nm (w1.heap.size);have hloBy : W0.heap.size ≤ By := by have := hB1.size; omega
   simp only [hBy] at FBy ⊢;generalize w1.alloc (.cells #[.int .i64 0, .int .i64 0] 29) = w2 at *;refine hK.out _ _ (HS.out _ hB2) (fun hHeld => ?_);clear hK K
   try simp only [Act.put, s_1, s_2, s_3]
   have bltBy := FBy.2.2.2.2;refine rq [4] ?_;refine tkC (fun K hK => ?_) (AllReadyH.nil)
   go_simp
   (go_at_call 32; go_split_ands; (with_reducible refine (HA.out _).mono ?_); rintro e w3 ⟨rfl, hb3⟩)
   go_wp2_with fail
   have hB3 := hB2.trans (hb3.mono hB2.size);have FBy := FBy.carry hb3;refine hK.out _ _ (HS.out _ hB3) (fun hHeld => ?_);clear hK K
   try simp only [Act.put, s_1, s_2, s_3]
   have bltBy := FBy.2.2.2.2;refine tkA 5 ?_;simp only [Act.put, s_1, s_2, s_3];refine tkA 6 ?_;simp only [Act.put, s_1, s_2, s_3];refine tkA 7 ?_;simp only [Act.put, s_1, s_2, s_3]
  rotate_left
  all_goals
   refine rq [9] ?_;refine tkC (fun K hK => ?_) (AllReadyH.nil);rw [if_pos (by rfl)];go_split_ands;obtain ⟨fa, fb, fc, fd, fe⟩ := FBy
   go_wp2_with fail
   have hB4 := below_s ⟨By, 1, none⟩ (.int .i64 (X.2.1)) (below_s ⟨By, 0, none⟩ (.int .i64 (X.1)) hB3 hloBy) hloBy;have FBy := FI.set ⟨fa, fb, fc, fd, fe⟩ (X.1) (X.2.1);clear fa fb fc fd fe;generalize ((w3.setCell ⟨By, 0, none⟩ (.int .i64 (X.1))).setCell ⟨By, 1, none⟩ (.int .i64 (X.2.1))) = w4 at *;refine hK.out _ _ (HS.out _ hB4) (fun hHeld => ?_);clear hK K
   try simp only [Act.put, s_1, s_2, s_3]
   have bltBy := FBy.2.2.2.2;refine tkA 10 ?_;simp only [Act.put, s_1, s_2, s_3];refine wpAnyH_done (by kernel_rfl) ?_ _;have hB := hB4;refine NoPanic.normal ?_;have t0 := FBy.1;have t1 := FBy.2.1;have HRX := lh (HRR.out.carry hB);obtain ⟨p0, p1, p2, p3, p4, p5, p6, p7, pf⟩ := HP.out.carry hB;obtain ⟨r0, r1, r2, r3, r4, r5, r6, r7, rf⟩ := HRX.out
   go_wp2_with fail
   have hq := pc_from ⟨p.f0, p.f1, X.1, X.2.1, -p.b0, p.b1, -p.c0, p.c1⟩ ((((HRX.out.far (b2 := w.heap.size) (j := 2) (by omega) (.int .i64 X.1)).far (b2 := w.heap.size) (j := 3) (by omega) (.int .i64 X.2.1)).far (b2 := w.heap.size) (j := 4) (by omega) (.int .i64 (-p.b0))).far (b2 := w.heap.size) (j := 6) (by omega) (.int .i64 (-p.c0)));have hBB := below_from (m := w.heap.size) (b := w.heap.size + 1) (W := w) [.int .i64 p.f0, .int .i64 p.f1, .int .i64 X.1, .int .i64 X.2.1, .int .i64 (-p.b0), .int .i64 p.b1, .int .i64 (-p.c0), .int .i64 p.c1] _ 0 (below_s ⟨w.heap.size, 6, none⟩ (.int .i64 (-p.c0)) (below_s ⟨w.heap.size, 4, none⟩ (.int .i64 (-p.b0)) (below_s ⟨w.heap.size, 3, none⟩ (.int .i64 X.2.1) (below_s ⟨w.heap.size, 2, none⟩ (.int .i64 X.1) (hW0.trans (hB.mono hW0.size)) (Nat.le_refl _)) (Nat.le_refl _)) (Nat.le_refl _)) (Nat.le_refl _)) (Nat.le_succ _);show bodyPost _ _ _ Exit.ret _ (setFrom ((((w4.setCell ⟨w.heap.size, 2, none⟩ (.int .i64 X.1)).setCell ⟨w.heap.size, 3, none⟩ (.int .i64 X.2.1)).setCell ⟨w.heap.size, 4, none⟩ (.int .i64 (-p.b0))).setCell ⟨w.heap.size, 6, none⟩ (.int .i64 (-p.c0))) (w.heap.size + 1) 0 [.int .i64 p.f0, .int .i64 p.f1, .int .i64 X.1, .int .i64 X.2.1, .int .i64 (-p.b0), .int .i64 p.b1, .int .i64 (-p.c0), .int .i64 p.c1]);have hq : (setFrom ((((w4.setCell ⟨w.heap.size, 2, none⟩ (.int .i64 X.1)).setCell ⟨w.heap.size, 3, none⟩ (.int .i64 X.2.1)).setCell ⟨w.heap.size, 4, none⟩ (.int .i64 (-p.b0))).setCell ⟨w.heap.size, 6, none⟩ (.int .i64 (-p.c0))) (w.heap.size + 1) 0 [.int .i64 p.f0, .int .i64 p.f1, .int .i64 X.1, .int .i64 X.2.1, .int .i64 (-p.b0), .int .i64 p.b1, .int .i64 (-p.c0), .int .i64 p.c1]).cell? ⟨w.heap.size + 1, 0, none⟩ = some (.int .i64 p.f0) ∧ (setFrom ((((w4.setCell ⟨w.heap.size, 2, none⟩ (.int .i64 X.1)).setCell ⟨w.heap.size, 3, none⟩ (.int .i64 X.2.1)).setCell ⟨w.heap.size, 4, none⟩ (.int .i64 (-p.b0))).setCell ⟨w.heap.size, 6, none⟩ (.int .i64 (-p.c0))) (w.heap.size + 1) 0 [.int .i64 p.f0, .int .i64 p.f1, .int .i64 X.1, .int .i64 X.2.1, .int .i64 (-p.b0), .int .i64 p.b1, .int .i64 (-p.c0), .int .i64 p.c1]).cell? ⟨w.heap.size + 1, 1, none⟩ = some (.int .i64 p.f1) ∧ (setFrom ((((w4.setCell ⟨w.heap.size, 2, none⟩ (.int .i64 X.1)).setCell ⟨w.heap.size, 3, none⟩ (.int .i64 X.2.1)).setCell ⟨w.heap.size, 4, none⟩ (.int .i64 (-p.b0))).setCell ⟨w.heap.size, 6, none⟩ (.int .i64 (-p.c0))) (w.heap.size + 1) 0 [.int .i64 p.f0, .int .i64 p.f1, .int .i64 X.1, .int .i64 X.2.1, .int .i64 (-p.b0), .int .i64 p.b1, .int .i64 (-p.c0), .int .i64 p.c1]).cell? ⟨w.heap.size + 1, 2, none⟩ = some (.int .i64 X.1) ∧ (setFrom ((((w4.setCell ⟨w.heap.size, 2, none⟩ (.int .i64 X.1)).setCell ⟨w.heap.size, 3, none⟩ (.int .i64 X.2.1)).setCell ⟨w.heap.size, 4, none⟩ (.int .i64 (-p.b0))).setCell ⟨w.heap.size, 6, none⟩ (.int .i64 (-p.c0))) (w.heap.size + 1) 0 [.int .i64 p.f0, .int .i64 p.f1, .int .i64 X.1, .int .i64 X.2.1, .int .i64 (-p.b0), .int .i64 p.b1, .int .i64 (-p.c0), .int .i64 p.c1]).cell? ⟨w.heap.size + 1, 3, none⟩ = some (.int .i64 X.2.1) ∧ (setFrom ((((w4.setCell ⟨w.heap.size, 2, none⟩ (.int .i64 X.1)).setCell ⟨w.heap.size, 3, none⟩ (.int .i64 X.2.1)).setCell ⟨w.heap.size, 4, none⟩ (.int .i64 (-p.b0))).setCell ⟨w.heap.size, 6, none⟩ (.int .i64 (-p.c0))) (w.heap.size + 1) 0 [.int .i64 p.f0, .int .i64 p.f1, .int .i64 X.1, .int .i64 X.2.1, .int .i64 (-p.b0), .int .i64 p.b1, .int .i64 (-p.c0), .int .i64 p.c1]).cell? ⟨w.heap.size + 1, 4, none⟩ = some (.int .i64 (-p.b0)) ∧ (setFrom ((((w4.setCell ⟨w.heap.size, 2, none⟩ (.int .i64 X.1)).setCell ⟨w.heap.size, 3, none⟩ (.int .i64 X.2.1)).setCell ⟨w.heap.size, 4, none⟩ (.int .i64 (-p.b0))).setCell ⟨w.heap.size, 6, none⟩ (.int .i64 (-p.c0))) (w.heap.size + 1) 0 [.int .i64 p.f0, .int .i64 p.f1, .int .i64 X.1, .int .i64 X.2.1, .int .i64 (-p.b0), .int .i64 p.b1, .int .i64 (-p.c0), .int .i64 p.c1]).cell? ⟨w.heap.size + 1, 5, none⟩ = some (.int .i64 p.b1) ∧ (setFrom ((((w4.setCell ⟨w.heap.size, 2, none⟩ (.int .i64 X.1)).setCell ⟨w.heap.size, 3, none⟩ (.int .i64 X.2.1)).setCell ⟨w.heap.size, 4, none⟩ (.int .i64 (-p.b0))).setCell ⟨w.heap.size, 6, none⟩ (.int .i64 (-p.c0))) (w.heap.size + 1) 0 [.int .i64 p.f0, .int .i64 p.f1, .int .i64 X.1, .int .i64 X.2.1, .int .i64 (-p.b0), .int .i64 p.b1, .int .i64 (-p.c0), .int .i64 p.c1]).cell? ⟨w.heap.size + 1, 6, none⟩ = some (.int .i64 (-p.c0)) ∧ (setFrom ((((w4.setCell ⟨w.heap.size, 2, none⟩ (.int .i64 X.1)).setCell ⟨w.heap.size, 3, none⟩ (.int .i64 X.2.1)).setCell ⟨w.heap.size, 4, none⟩ (.int .i64 (-p.b0))).setCell ⟨w.heap.size, 6, none⟩ (.int .i64 (-p.c0))) (w.heap.size + 1) 0 [.int .i64 p.f0, .int .i64 p.f1, .int .i64 X.1, .int .i64 X.2.1, .int .i64 (-p.b0), .int .i64 p.b1, .int .i64 (-p.c0), .int .i64 p.c1]).cell? ⟨w.heap.size + 1, 7, none⟩ = some (.int .i64 p.c1) := hq
   generalize setFrom ((((w4.setCell ⟨w.heap.size, 2, none⟩ (.int .i64 X.1)).setCell ⟨w.heap.size, 3, none⟩ (.int .i64 X.2.1)).setCell ⟨w.heap.size, 4, none⟩ (.int .i64 (-p.b0))).setCell ⟨w.heap.size, 6, none⟩ (.int .i64 (-p.c0))) (w.heap.size + 1) 0 [.int .i64 p.f0, .int .i64 p.f1, .int .i64 X.1, .int .i64 X.2.1, .int .i64 (-p.b0), .int .i64 p.b1, .int .i64 (-p.c0), .int .i64 p.c1] = WF at *;obtain ⟨g0, g1, g2, g3, g4, g5, g6, g7⟩ := hq;exact bodyPost_ret (v := .tuple #[.agg #[.int .i64 p.f0, .int .i64 p.f1, .int .i64 X.1, .int .i64 X.2.1, .int .i64 (-p.b0), .int .i64 p.b1, .int .i64 (-p.c0), .int .i64 p.c1], .int .i64 X.2.2]) (by simp [results, Tryz.results46, go_sem, g0, g1, g2, g3, g4, g5, g6, g7]) rfl ⟨rfl, hBB⟩
 ·rw [if_pos (by rfl)]
  go_split_ands
  go_wp2_with fail
  have hB1 := below_a (.cells #[.int .i64 0, .int .i64 0] 29) hB0;have FBy := FI.new w0 29;obtain ⟨By, hBy⟩ := nm (w0.heap.size);have hloBy : W0.heap.size ≤ By := by have := hB0.size; omega
  simp only [hBy] at FBy ⊢;generalize w0.alloc (.cells #[.int .i64 0, .int .i64 0] 29) = w1 at *;refine hK.out _ _ (HS.out _ hB1) (fun hHeld => ?_);clear hK K
  try simp only [Act.put, s_1, s_2, s_3]
  have bltBy := FBy.2.2.2.2;refine rq [1] ?_;refine tkC (fun K hK => ?_) (AllReadyH.nil)
  go_simp
  (go_at_call 30; go_split_ands; (with_reducible refine (mof_any f _).mono ?_); rintro e w2 ⟨rfl, hb2⟩)
  go_wp2_with fail
  have hB2 := hB1.trans (hb2.mono hB1.size);have FBy := FBy.carry hb2;refine hK.out _ _ (HS.out _ hB2) (fun hHeld => ?_);clear hK K
  try simp only [Act.put, s_1, s_2, s_3]
  have bltBy := FBy.2.2.2.2;refine rq [4] ?_;refine tkC (fun K hK => ?_) (AllReadyH.nil)
  go_simp
  (go_at_call 32; go_split_ands; (with_reducible refine (HA.out _).mono ?_); rintro e w3 ⟨rfl, hb3⟩)
  go_wp2_with fail
  have hB3 := hB2.trans (hb3.mono hB2.size);have FBy := FBy.carry hb3;refine hK.out _ _ (HS.out _ hB3) (fun hHeld => ?_);clear hK K
  try simp only [Act.put, s_1, s_2, s_3]
  have bltBy := FBy.2.2.2.2;refine tkA 5 ?_;simp only [Act.put, s_1, s_2, s_3];refine tkA 6 ?_;simp only [Act.put, s_1, s_2, s_3];refine tkA 7 ?_;simp only [Act.put, s_1, s_2, s_3];refine rq [9] ?_;refine tkC (fun K hK => ?_) (AllReadyH.nil);rw [if_pos (by rfl)];go_split_ands;obtain ⟨fa, fb, fc, fd, fe⟩ := FBy
  go_wp2_with fail
  have hB4 := below_s ⟨By, 1, none⟩ (.int .i64 (X.2.1)) (below_s ⟨By, 0, none⟩ (.int .i64 (X.1)) hB3 hloBy) hloBy;have FBy := FI.set ⟨fa, fb, fc, fd, fe⟩ (X.1) (X.2.1);clear fa fb fc fd fe;generalize ((w3.setCell ⟨By, 0, none⟩ (.int .i64 (X.1))).setCell ⟨By, 1, none⟩ (.int .i64 (X.2.1))) = w4 at *;refine hK.out _ _ (HS.out _ hB4) (fun hHeld => ?_);clear hK K
  try simp only [Act.put, s_1, s_2, s_3]
  have bltBy := FBy.2.2.2.2;refine tkA 10 ?_;simp only [Act.put, s_1, s_2, s_3];refine wpAnyH_done (by kernel_rfl) ?_ _;have hB := hB4;refine NoPanic.normal ?_;have t0 := FBy.1;have t1 := FBy.2.1;have HRX := lh (HRR.out.carry hB);obtain ⟨p0, p1, p2, p3, p4, p5, p6, p7, pf⟩ := HP.out.carry hB;obtain ⟨r0, r1, r2, r3, r4, r5, r6, r7, rf⟩ := HRX.out
  go_wp2_with fail
  have hq := pc_from ⟨p.f0, p.f1, X.1, X.2.1, -p.b0, p.b1, -p.c0, p.c1⟩ ((((HRX.out.far (b2 := w.heap.size) (j := 2) (by omega) (.int .i64 X.1)).far (b2 := w.heap.size) (j := 3) (by omega) (.int .i64 X.2.1)).far (b2 := w.heap.size) (j := 4) (by omega) (.int .i64 (-p.b0))).far (b2 := w.heap.size) (j := 6) (by omega) (.int .i64 (-p.c0)));have hBB := below_from (m := w.heap.size) (b := w.heap.size + 1) (W := w) [.int .i64 p.f0, .int .i64 p.f1, .int .i64 X.1, .int .i64 X.2.1, .int .i64 (-p.b0), .int .i64 p.b1, .int .i64 (-p.c0), .int .i64 p.c1] _ 0 (below_s ⟨w.heap.size, 6, none⟩ (.int .i64 (-p.c0)) (below_s ⟨w.heap.size, 4, none⟩ (.int .i64 (-p.b0)) (below_s ⟨w.heap.size, 3, none⟩ (.int .i64 X.2.1) (below_s ⟨w.heap.size, 2, none⟩ (.int .i64 X.1) (hW0.trans (hB.mono hW0.size)) (Nat.le_refl _)) (Nat.le_refl _)) (Nat.le_refl _)) (Nat.le_refl _)) (Nat.le_succ _);show bodyPost _ _ _ Exit.ret _ (setFrom ((((w4.setCell ⟨w.heap.size, 2, none⟩ (.int .i64 X.1)).setCell ⟨w.heap.size, 3, none⟩ (.int .i64 X.2.1)).setCell ⟨w.heap.size, 4, none⟩ (.int .i64 (-p.b0))).setCell ⟨w.heap.size, 6, none⟩ (.int .i64 (-p.c0))) (w.heap.size + 1) 0 [.int .i64 p.f0, .int .i64 p.f1, .int .i64 X.1, .int .i64 X.2.1, .int .i64 (-p.b0), .int .i64 p.b1, .int .i64 (-p.c0), .int .i64 p.c1]);have hq : (setFrom ((((w4.setCell ⟨w.heap.size, 2, none⟩ (.int .i64 X.1)).setCell ⟨w.heap.size, 3, none⟩ (.int .i64 X.2.1)).setCell ⟨w.heap.size, 4, none⟩ (.int .i64 (-p.b0))).setCell ⟨w.heap.size, 6, none⟩ (.int .i64 (-p.c0))) (w.heap.size + 1) 0 [.int .i64 p.f0, .int .i64 p.f1, .int .i64 X.1, .int .i64 X.2.1, .int .i64 (-p.b0), .int .i64 p.b1, .int .i64 (-p.c0), .int .i64 p.c1]).cell? ⟨w.heap.size + 1, 0, none⟩ = some (.int .i64 p.f0) ∧ (setFrom ((((w4.setCell ⟨w.heap.size, 2, none⟩ (.int .i64 X.1)).setCell ⟨w.heap.size, 3, none⟩ (.int .i64 X.2.1)).setCell ⟨w.heap.size, 4, none⟩ (.int .i64 (-p.b0))).setCell ⟨w.heap.size, 6, none⟩ (.int .i64 (-p.c0))) (w.heap.size + 1) 0 [.int .i64 p.f0, .int .i64 p.f1, .int .i64 X.1, .int .i64 X.2.1, .int .i64 (-p.b0), .int .i64 p.b1, .int .i64 (-p.c0), .int .i64 p.c1]).cell? ⟨w.heap.size + 1, 1, none⟩ = some (.int .i64 p.f1) ∧ (setFrom ((((w4.setCell ⟨w.heap.size, 2, none⟩ (.int .i64 X.1)).setCell ⟨w.heap.size, 3, none⟩ (.int .i64 X.2.1)).setCell ⟨w.heap.size, 4, none⟩ (.int .i64 (-p.b0))).setCell ⟨w.heap.size, 6, none⟩ (.int .i64 (-p.c0))) (w.heap.size + 1) 0 [.int .i64 p.f0, .int .i64 p.f1, .int .i64 X.1, .int .i64 X.2.1, .int .i64 (-p.b0), .int .i64 p.b1, .int .i64 (-p.c0), .int .i64 p.c1]).cell? ⟨w.heap.size + 1, 2, none⟩ = some (.int .i64 X.1) ∧ (setFrom ((((w4.setCell ⟨w.heap.size, 2, none⟩ (.int .i64 X.1)).setCell ⟨w.heap.size, 3, none⟩ (.int .i64 X.2.1)).setCell ⟨w.heap.size, 4, none⟩ (.int .i64 (-p.b0))).setCell ⟨w.heap.size, 6, none⟩ (.int .i64 (-p.c0))) (w.heap.size + 1) 0 [.int .i64 p.f0, .int .i64 p.f1, .int .i64 X.1, .int .i64 X.2.1, .int .i64 (-p.b0), .int .i64 p.b1, .int .i64 (-p.c0), .int .i64 p.c1]).cell? ⟨w.heap.size + 1, 3, none⟩ = some (.int .i64 X.2.1) ∧ (setFrom ((((w4.setCell ⟨w.heap.size, 2, none⟩ (.int .i64 X.1)).setCell ⟨w.heap.size, 3, none⟩ (.int .i64 X.2.1)).setCell ⟨w.heap.size, 4, none⟩ (.int .i64 (-p.b0))).setCell ⟨w.heap.size, 6, none⟩ (.int .i64 (-p.c0))) (w.heap.size + 1) 0 [.int .i64 p.f0, .int .i64 p.f1, .int .i64 X.1, .int .i64 X.2.1, .int .i64 (-p.b0), .int .i64 p.b1, .int .i64 (-p.c0), .int .i64 p.c1]).cell? ⟨w.heap.size + 1, 4, none⟩ = some (.int .i64 (-p.b0)) ∧ (setFrom ((((w4.setCell ⟨w.heap.size, 2, none⟩ (.int .i64 X.1)).setCell ⟨w.heap.size, 3, none⟩ (.int .i64 X.2.1)).setCell ⟨w.heap.size, 4, none⟩ (.int .i64 (-p.b0))).setCell ⟨w.heap.size, 6, none⟩ (.int .i64 (-p.c0))) (w.heap.size + 1) 0 [.int .i64 p.f0, .int .i64 p.f1, .int .i64 X.1, .int .i64 X.2.1, .int .i64 (-p.b0), .int .i64 p.b1, .int .i64 (-p.c0), .int .i64 p.c1]).cell? ⟨w.heap.size + 1, 5, none⟩ = some (.int .i64 p.b1) ∧ (setFrom ((((w4.setCell ⟨w.heap.size, 2, none⟩ (.int .i64 X.1)).setCell ⟨w.heap.size, 3, none⟩ (.int .i64 X.2.1)).setCell ⟨w.heap.size, 4, none⟩ (.int .i64 (-p.b0))).setCell ⟨w.heap.size, 6, none⟩ (.int .i64 (-p.c0))) (w.heap.size + 1) 0 [.int .i64 p.f0, .int .i64 p.f1, .int .i64 X.1, .int .i64 X.2.1, .int .i64 (-p.b0), .int .i64 p.b1, .int .i64 (-p.c0), .int .i64 p.c1]).cell? ⟨w.heap.size + 1, 6, none⟩ = some (.int .i64 (-p.c0)) ∧ (setFrom ((((w4.setCell ⟨w.heap.size, 2, none⟩ (.int .i64 X.1)).setCell ⟨w.heap.size, 3, none⟩ (.int .i64 X.2.1)).setCell ⟨w.heap.size, 4, none⟩ (.int .i64 (-p.b0))).setCell ⟨w.heap.size, 6, none⟩ (.int .i64 (-p.c0))) (w.heap.size + 1) 0 [.int .i64 p.f0, .int .i64 p.f1, .int .i64 X.1, .int .i64 X.2.1, .int .i64 (-p.b0), .int .i64 p.b1, .int .i64 (-p.c0), .int .i64 p.c1]).cell? ⟨w.heap.size + 1, 7, none⟩ = some (.int .i64 p.c1) := hq
  generalize setFrom ((((w4.setCell ⟨w.heap.size, 2, none⟩ (.int .i64 X.1)).setCell ⟨w.heap.size, 3, none⟩ (.int .i64 X.2.1)).setCell ⟨w.heap.size, 4, none⟩ (.int .i64 (-p.b0))).setCell ⟨w.heap.size, 6, none⟩ (.int .i64 (-p.c0))) (w.heap.size + 1) 0 [.int .i64 p.f0, .int .i64 p.f1, .int .i64 X.1, .int .i64 X.2.1, .int .i64 (-p.b0), .int .i64 p.b1, .int .i64 (-p.c0), .int .i64 p.c1] = WF at *;obtain ⟨g0, g1, g2, g3, g4, g5, g6, g7⟩ := hq;exact bodyPost_ret (v := .tuple #[.agg #[.int .i64 p.f0, .int .i64 p.f1, .int .i64 X.1, .int .i64 X.2.1, .int .i64 (-p.b0), .int .i64 p.b1, .int .i64 (-p.c0), .int .i64 p.c1], .int .i64 X.2.2]) (by simp [results, Tryz.results46, go_sem, g0, g1, g2, g3, g4, g5, g6, g7]) rfl ⟨rfl, hBB⟩
end
section
theorem fit_valid2 {p q : Int} (hq : 0 < q) (c : Int.gcd p q = 1) (h : (fitP p q).2.2 = 0) : vF ((fitP p q).1, (fitP p q).2.1) = true ∧ ((fitP p q).1, (fitP p q).2.1) = (p, q) := by
 obtain ⟨e, v⟩ := fit_ok hq c h;rw [e];exact ⟨v, rfl⟩
theorem mulP_ok {a b : Int × Int} (ha : 0 < a.2) (hb : 0 < b.2) (h : (mulP a.1 a.2 b.1 b.2).2.2 = 0) : vF ((mulP a.1 a.2 b.1 b.2).1, (mulP a.1 a.2 b.1 b.2).2.1) = true ∧ fr ((mulP a.1 a.2 b.1 b.2).1, (mulP a.1 a.2 b.1 b.2).2.1) = fr a * fr b := by
 obtain ⟨v, e⟩ := fit_valid2 (lowD_pos (Int.mul_pos ha hb)) (low_cop (Int.mul_pos ha hb)) (h : (fitP _ _).2.2 = 0);exact ⟨v, by rw [← frq_times ha hb]; exact congrArg fr e⟩
theorem addP_ok {a b : Int × Int} (ha : 0 < a.2) (hb : 0 < b.2) (h : (addP a.1 a.2 b.1 b.2).2.2 = 0) : vF ((addP a.1 a.2 b.1 b.2).1, (addP a.1 a.2 b.1 b.2).2.1) = true ∧ fr ((addP a.1 a.2 b.1 b.2).1, (addP a.1 a.2 b.1 b.2).2.1) = fr a + fr b := by
 obtain ⟨v, e⟩ := fit_valid2 (lowD_pos (Int.mul_pos ha hb)) (low_cop (Int.mul_pos ha hb)) (h : (fitP _ _).2.2 = 0);exact ⟨v, by rw [← frq_add ha hb]; exact congrArg fr e⟩
structure PSm (p : Pc) : Prop where
 a : -1099511627776 ≤ p.a0 ∧ p.a0 ≤ 1099511627776 ∧ 1 ≤ p.a1 ∧ p.a1 ≤ 65536
 b : -8192 ≤ p.b0 ∧ p.b0 ≤ 8192
 c : -16384 ≤ p.c0 ∧ p.c0 ≤ 16384
theorem add_small {f n d : Int} (hf : -1048576 ≤ f ∧ f ≤ 1048576) (hn : -1099511627776 ≤ n ∧ n ≤ 1099511627776) (hd : 1 ≤ d ∧ d ≤ 65536) : (addP f 1 n d).2.2 = 0 := by
 unfold addP
 have e1 : f * d ≤ 1048576 * 65536 := by
  rcases Int.lt_or_le f 0 with l | l
  ·have := Int.mul_neg_of_neg_of_pos l (show 0 < d by omega); omega
  ·exact Int.mul_le_mul hf.2 hd.2 (by omega) (by decide)
 have e2 : -(1048576 * 65536) ≤ f * d := by
  rcases Int.lt_or_le f 0 with l | l
  ·have := Int.mul_le_mul (show -f ≤ 1048576 by omega) hd.2 (by omega) (by decide)
   rw [Int.neg_mul] at this;omega
  ·have := Int.mul_nonneg l (show 0 ≤ d by omega); omega
 rw [fit_low (by omega) (by omega) (by omega) (by omega)]
def wayP (up : Bool) (f : Int) (p : Pc) : Pc := if up then (upP f p).1 else (downP f p).1
def pathL (up : Bool) (f : Int) (L : List Pc) : List Pc := L.map (wayP up f)
theorem path_len (up : Bool) (f : Int) (L : List Pc) : (pathL up f L).length = L.length := by simp [pathL]
theorem path_at {up : Bool} {f : Int} {L : List Pc} {i : Nat} (h : i < L.length) : pcg (pathL up f L) i = wayP up f (pcg L i) := by
 rw [pcg_eq _ i (by rw [path_len]; exact h), pcg_eq _ i h]
 simp [pathL]
theorem up_ok {f : Int} {p : Pc} (hf : -1048576 ≤ f ∧ f ≤ 1048576) (s : PSm p) : (upP f p).2 = 0 := add_small hf ⟨s.a.1, s.a.2.1⟩ s.a.2.2
theorem down_ok {f : Int} {p : Pc} (hf : -1048576 ≤ f ∧ f ≤ 1048576) (s : PSm p) : (downP f p).2 = 0 := add_small hf ⟨by have := s.a; omega, by have := s.a; omega⟩ s.a.2.2
def mir (up : Bool) (f : Rat) (q : QP) : QP := if up then ⟨q.f, f + q.a, q.b, q.c⟩ else ⟨q.f, f - q.a, -q.b, -q.c⟩
theorem way_qp {up : Bool} {f : Int} {p : Pc} (hf : -1048576 ≤ f ∧ f ≤ 1048576) (s : PSm p) : qp (wayP up f p) = mir up (f : Rat) (qp p) ∧ validF (wayP up f p).a0 (wayP up f p).a1 = true := by
 have d1 : (0 : Int) < ((f, 1) : Int × Int).2 := by show (0 : Int) < 1; decide
 cases up
 ·obtain ⟨v, e⟩ := addP_ok (a := (f, 1)) (b := (-p.a0, p.a1)) d1 (show 0 < p.a1 by have := s.a; omega) (down_ok hf s)
  refine ⟨?_, v⟩;unfold wayP mir qp;simp only [Bool.false_eq_true, if_false];show (⟨fr (p.f0, p.f1), fr ((addP f 1 (-p.a0) p.a1).1, (addP f 1 (-p.a0) p.a1).2.1), fr (-p.b0, p.b1), fr (-p.c0, p.c1)⟩ : QP) = _;rw [show fr ((addP f 1 (-p.a0) p.a1).1, (addP f 1 (-p.a0) p.a1).2.1) = fr (f, 1) + fr (-p.a0, p.a1) from e, frq_one, show fr (-p.a0, p.a1) = -fr (p.a0, p.a1) from frq_neg (p.a0, p.a1), show fr (-p.b0, p.b1) = -fr (p.b0, p.b1) from frq_neg (p.b0, p.b1), show fr (-p.c0, p.c1) = -fr (p.c0, p.c1) from frq_neg (p.c0, p.c1), Rat.sub_eq_add_neg]
 ·obtain ⟨v, e⟩ := addP_ok (a := (f, 1)) (b := (p.a0, p.a1)) d1 (show 0 < p.a1 by have := s.a; omega) (up_ok hf s)
  refine ⟨?_, v⟩;unfold wayP mir qp;simp only [if_true];show (⟨fr (p.f0, p.f1), fr ((addP f 1 p.a0 p.a1).1, (addP f 1 p.a0 p.a1).2.1), fr (p.b0, p.b1), fr (p.c0, p.c1)⟩ : QP) = _;rw [show fr ((addP f 1 p.a0 p.a1).1, (addP f 1 p.a0 p.a1).2.1) = fr (f, 1) + fr (p.a0, p.a1) from e, frq_one]
theorem valid_negF {n d : Int} (h : validF n d = true) : validF (-n) d = true := by
 obtain ⟨h1, h2, h3, h4, h5⟩ := (validF_iff _ _).1 h;exact (validF_iff _ _).2 ⟨h1, h2, by omega, by omega, by rw [Int.neg_gcd]; exact h5⟩
theorem path_ok {up : Bool} {f : Int} {L : List Pc} (hf : -1048576 ≤ f ∧ f ≤ 1048576) (ok : CurveOK L) (s : ∀ i, i < L.length → PSm (pcg L i)) : CurveOK (pathL up f L) := by
 refine ⟨by rw [path_len]; exact ok.pos, by rw [path_len]; exact ok.len, fun i hi => ?_, fun i hi => ?_⟩
 ·have hi' : i < L.length := by rwa [path_len] at hi
  have v := ok.val i hi';rw [path_at hi'];have w := (way_qp (up := up) hf (s i hi')).2;refine ⟨?_, w, ?_, ?_⟩
  ·cases up <;> exact v.f
  ·cases up
   ·exact valid_negF v.b
   ·exact v.b
  ·cases up
   ·exact valid_negF v.c
   ·exact v.c
 ·have hi' : i + 1 < L.length := by rwa [path_len] at hi
  rw [path_at (by omega), path_at hi'];have a := ok.asc i hi'
  cases up <;> exact a
theorem abs_low {n d : Int} (b : Int) (h : -b ≤ n ∧ n ≤ b) : -b ≤ lowN n d ∧ lowN n d ≤ b := by
 have := lowN_le n d;omega
theorem curve_small {d : Int} {m : Mv} {t : Int} (hg : givenP d m = 0) (ht : IsTop d m.spd m.rise m.fall t) : ∀ i, i < (curveL d m.rise m.fall t).length → PSm (pcg (curveL d m.rise m.fall t) i) := by
 obtain ⟨hv, hd⟩ := given_ok hg;obtain ⟨V0, V1, R0, R1, F0, F1⟩ := valid_bds hv;obtain ⟨d1, d2⟩ := inB_iff.1 hd
 by_cases hz : d = 0
 ·have e : curveL d m.rise m.fall t = [⟨0, 1, 0, 1, 0, 1, 0, 1⟩] := by unfold curveL; rw [if_pos hz]
  rw [e];intro i hi;obtain rfl : i = 0 := by simpa using hi
  exact ⟨by decide, by decide, by decide⟩
 ·have t0 := top_pos (by omega) R0 F0 V0 ht
  have t1 : t ≤ 8192 := by have := ht.2.1; omega
  obtain ⟨T0, T1, k0, k1, rf0, rf1, w0, w1, a0, a1, b0, b1, c0, c1, e0, e1⟩ := curve_b (by omega) d2 R0 R1 F0 F1 V0 V1 ht;have l1 := lowD_le (n := t * t) (d := 2 * m.rise) (by omega);have l2 := lowD_pos (n := t * t) (d := 2 * m.rise) (by omega);have l3 := lowD_le (n := 2 * m.fall * d - t * t) (d := 2 * m.fall) (by omega);have l4 := lowD_pos (n := 2 * m.fall * d - t * t) (d := 2 * m.fall) (by omega);have n1 := abs_low (n := t * t) (d := 2 * m.rise) 67108864 (by omega);have n2 := abs_low (n := 2 * m.fall * d - t * t) (d := 2 * m.fall) 1099511627776 (by omega);have n3 := abs_low (n := m.rise) (d := 2) 16384 (by omega);have n4 := abs_low (n := -m.fall) (d := 2) 16384 (by omega);have za : -1099511627776 ≤ (0 : Int) ∧ (0 : Int) ≤ 1099511627776 ∧ (1 : Int) ≤ 1 ∧ (1 : Int) ≤ 65536 := by decide
  have zb : -8192 ≤ (0 : Int) ∧ (0 : Int) ≤ 8192 := by decide
  have zc : -16384 ≤ (0 : Int) ∧ (0 : Int) ≤ 16384 := by decide
  have p0 : PSm ⟨0, 1, 0, 1, 0, 1, lowN m.rise 2, lowD m.rise 2⟩ := ⟨za, zb, n3⟩;have p1 : PSm ⟨lowN t m.rise, lowD t m.rise, lowN (t * t) (2 * m.rise), lowD (t * t) (2 * m.rise), t, 1, 0, 1⟩ := ⟨by show -1099511627776 ≤ lowN (t * t) (2 * m.rise) ∧ lowN (t * t) (2 * m.rise) ≤ 1099511627776 ∧ 1 ≤ lowD (t * t) (2 * m.rise) ∧ lowD (t * t) (2 * m.rise) ≤ 65536; omega, by show -8192 ≤ t ∧ t ≤ 8192; omega, zc⟩;have p2 : PSm ⟨lowN (2 * m.fall * (t * t) + kP d m.rise m.fall t) (2 * m.rise * m.fall * t), lowD (2 * m.fall * (t * t) + kP d m.rise m.fall t) (2 * m.rise * m.fall * t), lowN (2 * m.fall * d - t * t) (2 * m.fall), lowD (2 * m.fall * d - t * t) (2 * m.fall), t, 1, lowN (-m.fall) 2, lowD (-m.fall) 2⟩ := ⟨by show -1099511627776 ≤ lowN (2 * m.fall * d - t * t) (2 * m.fall) ∧ lowN (2 * m.fall * d - t * t) (2 * m.fall) ≤ 1099511627776 ∧ 1 ≤ lowD (2 * m.fall * d - t * t) (2 * m.fall) ∧ lowD (2 * m.fall * d - t * t) (2 * m.fall) ≤ 65536; omega, by show -8192 ≤ t ∧ t ≤ 8192; omega, n4⟩;have p3 : PSm ⟨lowN (2 * m.fall * (t * t) + kP d m.rise m.fall t + 2 * m.rise * (t * t)) (2 * m.rise * m.fall * t), lowD (2 * m.fall * (t * t) + kP d m.rise m.fall t + 2 * m.rise * (t * t)) (2 * m.rise * m.fall * t), d, 1, 0, 1, 0, 1⟩ := ⟨by show -1099511627776 ≤ d ∧ d ≤ 1099511627776 ∧ (1 : Int) ≤ 1 ∧ (1 : Int) ≤ 65536; omega, zb, zc⟩
  by_cases kz : kP d m.rise m.fall t = 0
  ·unfold curveL
   rw [if_neg hz, if_pos kz];intro i hi;have hi' : i < 3 := by simpa using hi
   obtain rfl | rfl | rfl : i = 0 ∨ i = 1 ∨ i = 2 := by omega
   ·exact p0
   ·exact p2
   ·exact p3
  ·unfold curveL
   rw [if_neg hz, if_neg kz];intro i hi;have hi' : i < 4 := by simpa using hi
   obtain rfl | rfl | rfl | rfl : i = 0 ∨ i = 1 ∨ i = 2 ∨ i = 3 := by omega
   ·exact p0
   ·exact p1
   ·exact p2
   ·exact p3
end
end Go.Proofs.YtbgkgahmicepdaaGreat
