/-
  PLAIN: the curve of a move over the rational numbers: it never falls, rests at last, and is nowhere steeper than its top speed.
-/
import Derived.Laws.StructEq
import Derived.Test.YtebofaenlhhkaaaGreatF29
namespace Go.Proofs.YtebofaenlhhkaaaGreat
set_option maxRecDepth 100000
set_option maxHeartbeats 80000000
section
theorem rat_nz {a b c : Rat} (ha : a ≠ 0) (hb : b ≠ 0) (hc : c ≠ 0) : a * b * c ≠ 0 := by
 intro h;rcases Rat.mul_eq_zero.1 h with h | h
 ·rcases Rat.mul_eq_zero.1 h with h | h
  ·exact ha h
  ·exact hb h
 ·exact hc h
theorem rat_div_pos {a b : Rat} (ha : 0 < a) (hb : 0 < b) : 0 < a / b := by
 rw [Rat.div_def]; exact Rat.mul_pos ha (Rat.inv_pos.2 hb)
def moveQ (d R F t k : Rat) : List QP :=
 [⟨0, 0, 0, R / 2⟩, ⟨t / R, t * t / (2 * R), t, 0⟩, ⟨(2 * F * (t * t) + k) / (2 * R * F * t), (2 * F * d - t * t) / (2 * F), t, -F / 2⟩, ⟨(2 * F * (t * t) + k + 2 * R * (t * t)) / (2 * R * F * t), d, 0, 0⟩]
def moveS (d R F t k : Rat) : List QP :=
 [⟨0, 0, 0, R / 2⟩, ⟨(2 * F * (t * t) + k) / (2 * R * F * t), (2 * F * d - t * t) / (2 * F), t, -F / 2⟩, ⟨(2 * F * (t * t) + k + 2 * R * (t * t)) / (2 * R * F * t), d, 0, 0⟩]
theorem mv_a {R F t k : Rat} (hR : 0 < R) (hF : 0 < F) (ht : 0 < t) : (2 * F * (t * t) + k) / (2 * R * F * t) = t / R + k / (2 * R * F * t) := by
 have h1 : R ≠ 0 := by grind
 have h2 : F ≠ 0 := by grind
 have h3 : t ≠ 0 := by grind
 have h4 : 2 * R ≠ 0 := by grind
 have h6 : 2 * R * F * t ≠ 0 := rat_nz h4 h2 h3
 grind
theorem mv_b {R F t k : Rat} (hR : 0 < R) (hF : 0 < F) (ht : 0 < t) : (2 * F * (t * t) + k + 2 * R * (t * t)) / (2 * R * F * t) = (2 * F * (t * t) + k) / (2 * R * F * t) + t / F := by
 have h1 : R ≠ 0 := by grind
 have h2 : F ≠ 0 := by grind
 have h3 : t ≠ 0 := by grind
 have h4 : 2 * R ≠ 0 := by grind
 have h6 : 2 * R * F * t ≠ 0 := rat_nz h4 h2 h3
 grind
theorem mv_c {R F t d k : Rat} (hR : 0 < R) (hF : 0 < F) (ht : 0 < t) (hk : k = 2 * R * F * d - t * t * (R + F)) : t * t / (2 * R) + t * (k / (2 * R * F * t)) = (2 * F * d - t * t) / (2 * F) := by
 have h1 : R ≠ 0 := by grind
 have h2 : F ≠ 0 := by grind
 have h3 : t ≠ 0 := by grind
 have h4 : 2 * R ≠ 0 := by grind
 have h5 : 2 * F ≠ 0 := by grind
 have h6 : 2 * R * F * t ≠ 0 := rat_nz h4 h2 h3
 grind
theorem mv_d {F t d : Rat} (hF : 0 < F) : (2 * F * d - t * t) / (2 * F) + (t + (-F / 2) * (t / F)) * (t / F) = d ∧ t + 2 * (-F / 2 * (t / F)) = 0 := by
 have h1 : F ≠ 0 := by grind
 grind
theorem mv_e {R t : Rat} (hR : 0 < R) : 0 + (0 + R / 2 * (t / R - 0)) * (t / R - 0) = t * t / (2 * R) ∧ 0 + 2 * (R / 2 * (t / R - 0)) = t := by
 have h1 : R ≠ 0 := by grind
 grind
theorem up_last {R F t d k : Rat} (hR : 0 < R) (hF : 0 < F) (ht : 0 < t) : Up t [⟨(2 * F * (t * t) + k) / (2 * R * F * t), (2 * F * d - t * t) / (2 * F), t, -F / 2⟩, ⟨(2 * F * (t * t) + k + 2 * R * (t * t)) / (2 * R * F * t), d, 0, 0⟩] := by
 have h1 := mv_b (k := k) hR hF ht;have h2 := rat_div_pos ht hF;obtain ⟨d1, d2⟩ := mv_d (t := t) (d := d) hF;have e : (2 * F * (t * t) + k + 2 * R * (t * t)) / (2 * R * F * t) - (2 * F * (t * t) + k) / (2 * R * F * t) = t / F := by grind
 refine Up.go _ _ _ ?_ (Rat.le_of_lt ht) Rat.le_refl ?_ ?_ ?_ ?_ (Up.rest _ rfl rfl (Rat.le_of_lt ht))
 ·show (2 * F * (t * t) + k) / (2 * R * F * t) < (2 * F * (t * t) + k + 2 * R * (t * t)) / (2 * R * F * t)
  grind
 ·show 0 ≤ t + 2 * (-F / 2 * ((2 * F * (t * t) + k + 2 * R * (t * t)) / (2 * R * F * t) - (2 * F * (t * t) + k) / (2 * R * F * t)))
  rw [e, d2]; exact Rat.le_refl
 ·show t + 2 * (-F / 2 * ((2 * F * (t * t) + k + 2 * R * (t * t)) / (2 * R * F * t) - (2 * F * (t * t) + k) / (2 * R * F * t))) ≤ t
  rw [e, d2]; exact Rat.le_of_lt ht
 ·show (2 * F * d - t * t) / (2 * F) + (t + -F / 2 * ((2 * F * (t * t) + k + 2 * R * (t * t)) / (2 * R * F * t) - (2 * F * (t * t) + k) / (2 * R * F * t))) * ((2 * F * (t * t) + k + 2 * R * (t * t)) / (2 * R * F * t) - (2 * F * (t * t) + k) / (2 * R * F * t)) = d
  rw [e, d1]
 ·show t + 2 * (-F / 2 * ((2 * F * (t * t) + k + 2 * R * (t * t)) / (2 * R * F * t) - (2 * F * (t * t) + k) / (2 * R * F * t))) = 0
  rw [e, d2]
theorem moveQ_up {R F t d k : Rat} (hR : 0 < R) (hF : 0 < F) (ht : 0 < t) (hk : k = 2 * R * F * d - t * t * (R + F)) (k0 : 0 < k) : Up t (moveQ d R F t k) := by
 have h2 := rat_div_pos ht hR;have tle := Rat.le_of_lt ht;obtain ⟨e1, e2⟩ := mv_e (R := R) (t := t) hR;have ha := mv_a (k := k) hR hF ht;have hc := mv_c hR hF ht hk;have hw : 0 < 2 * R * F * t := Rat.mul_pos (Rat.mul_pos (by grind) hF) ht;have h3 := rat_div_pos k0 hw;have e : (2 * F * (t * t) + k) / (2 * R * F * t) - t / R = k / (2 * R * F * t) := by grind
 refine Up.go _ _ _ h2 Rat.le_refl tle ?_ ?_ e1 e2 (Up.go _ _ _ ?_ tle Rat.le_refl ?_ ?_ ?_ ?_ (up_last hR hF ht))
 ·show 0 ≤ 0 + 2 * (R / 2 * (t / R - 0))
  rw [e2]; exact tle
 ·show 0 + 2 * (R / 2 * (t / R - 0)) ≤ t
  rw [e2]; exact Rat.le_refl
 ·show t / R < (2 * F * (t * t) + k) / (2 * R * F * t)
  grind
 ·show 0 ≤ t + 2 * (0 * ((2 * F * (t * t) + k) / (2 * R * F * t) - t / R))
  grind
 ·show t + 2 * (0 * ((2 * F * (t * t) + k) / (2 * R * F * t) - t / R)) ≤ t
  grind
 ·show t * t / (2 * R) + (t + 0 * ((2 * F * (t * t) + k) / (2 * R * F * t) - t / R)) * ((2 * F * (t * t) + k) / (2 * R * F * t) - t / R) = (2 * F * d - t * t) / (2 * F)
  rw [e, ← hc]; grind
 ·show t + 2 * (0 * ((2 * F * (t * t) + k) / (2 * R * F * t) - t / R)) = t
  grind
theorem moveS_up {R F t d k : Rat} (hR : 0 < R) (hF : 0 < F) (ht : 0 < t) (hk : k = 2 * R * F * d - t * t * (R + F)) (k0 : k = 0) : Up t (moveS d R F t k) := by
 have h2 := rat_div_pos ht hR;have tle := Rat.le_of_lt ht;obtain ⟨e1, e2⟩ := mv_e (R := R) (t := t) hR;have ha := mv_a (k := k) hR hF ht;have hc := mv_c hR hF ht hk;have z : k / (2 * R * F * t) = 0 := by rw [k0, Rat.div_def, Rat.zero_mul]
 rw [z] at ha hc;have e : (2 * F * (t * t) + k) / (2 * R * F * t) = t / R := by grind
 refine Up.go _ _ _ ?_ Rat.le_refl tle ?_ ?_ ?_ ?_ (up_last hR hF ht)
 ·show 0 < (2 * F * (t * t) + k) / (2 * R * F * t)
  rw [e]; exact h2
 ·show 0 ≤ 0 + 2 * (R / 2 * ((2 * F * (t * t) + k) / (2 * R * F * t) - 0))
  rw [e, e2]; exact tle
 ·show 0 + 2 * (R / 2 * ((2 * F * (t * t) + k) / (2 * R * F * t) - 0)) ≤ t
  rw [e, e2]; exact Rat.le_refl
 ·show 0 + (0 + R / 2 * ((2 * F * (t * t) + k) / (2 * R * F * t) - 0)) * ((2 * F * (t * t) + k) / (2 * R * F * t) - 0) = (2 * F * d - t * t) / (2 * F)
  rw [e, e1, ← hc]; grind
 ·show 0 + 2 * (R / 2 * ((2 * F * (t * t) + k) / (2 * R * F * t) - 0)) = t
  rw [e, e2]
theorem qL_curve {d R F t : Int} (hd : ¬ d = 0) (hR : 1 ≤ R) (hF : 1 ≤ F) (ht : 1 ≤ t) : qL (curveL d R F t) = if kP d R F t = 0 then moveS d R F t (kP d R F t : Int) else moveQ d R F t (kP d R F t : Int) := by
 have w0 : 0 < 2 * R * F * t := Int.mul_pos (Int.mul_pos (by omega) (by omega)) (by omega);unfold curveL;rw [if_neg hd]
 split
 ·simp [qL, qp, moveS, frq_one, frq_low _ 2 (by decide), frq_low _ (2 * R * F * t) w0, frq_low _ (2 * F) (by omega)]
 ·simp [qL, qp, moveQ, frq_one, frq_low _ 2 (by decide), frq_low _ (2 * R * F * t) w0, frq_low _ (2 * F) (by omega), frq_low _ (2 * R) (by omega), frq_low _ R (by omega)]
theorem qL_f (L : List Pc) (i : Nat) (h : i < (qL L).length) : ((qL L)[i]).f = fr ((pcg L i).f0, (pcg L i).f1) := by rw [qL_get]; rfl
theorem Up.asc {m : Rat} {L : List QP} (h : Up m L) : Asc L := by
 induction h with
 | rest p _ _ _ => exact fun i h => absurd h (by simp)
 | go p q r hf _ _ _ _ _ _ h ih =>
  intro i hi
  cases i with
  | zero => exact hf
  | succ i => exact ih i (by simp only [List.length_cons] at hi ⊢; omega)
theorem ok_of_up {L : List Pc} {m : Rat} (h1 : 1 ≤ L.length) (h2 : L.length ≤ 200) (hv : ∀ i, i < L.length → PcOK (pcg L i)) (up : Up m (qL L)) : CurveOK L :=
 ⟨h1, h2, hv, fun i hi => by
  have hi' : i + 1 < (qL L).length := by rw [qL_len]; exact hi
  have a := up.asc i hi';rw [qL_f, qL_f] at a;exact (frq_lt (a := ((pcg L i).f0, (pcg L i).f1)) (b := ((pcg L (i + 1)).f0, (pcg L (i + 1)).f1)) (den_pos (hv i (by omega)).vf) (den_pos (hv (i + 1) hi).vf)).1 a⟩
structure MoveC (L : List Pc) (d t : Int) : Prop where
 ok : CurveOK L
 up : Up (t : Rat) (qL L)
 f0 : ((pcg L 0).f0, (pcg L 0).f1) = (0, 1)
 a0 : ((pcg L 0).a0, (pcg L 0).a1) = (0, 1)
 b0 : ((pcg L 0).b0, (pcg L 0).b1) = (0, 1)
 an : ((pcg L (L.length - 1)).a0, (pcg L (L.length - 1)).a1) = (d, 1)
 bn : ((pcg L (L.length - 1)).b0, (pcg L (L.length - 1)).b1) = (0, 1)
 cn : ((pcg L (L.length - 1)).c0, (pcg L (L.length - 1)).c1) = (0, 1)
 len : L.length ≤ 4
 t0 : 0 ≤ t
theorem valid_one {n : Int} (h1 : -1152921504606846976 ≤ n) (h2 : n ≤ 1152921504606846976) : validF n 1 = true := (validF_iff _ _).2 ⟨by decide, by decide, h1, h2, by simp⟩
theorem move_c {d : Int} {m : Mv} {t : Int} (hg : givenP d m = 0) (ht : IsTop d m.spd m.rise m.fall t) : MoveC (curveL d m.rise m.fall t) d t := by
 obtain ⟨hv, hd⟩ := given_ok hg;obtain ⟨V0, V1, R0, R1, F0, F1⟩ := valid_bds hv;obtain ⟨d1, d2⟩ := inB_iff.1 hd;have tz := ht.1;have o := valid_one (n := 0) (by decide) (by decide)
 by_cases hz : d = 0
 ·have e : curveL d m.rise m.fall t = [⟨0, 1, 0, 1, 0, 1, 0, 1⟩] := by unfold curveL; rw [if_pos hz]
  rw [e];have up : Up (t : Rat) (qL [⟨0, 1, 0, 1, 0, 1, 0, 1⟩]) := Up.rest _ frq_zero frq_zero (Rat.intCast_nonneg.2 tz)
  have hvv : ∀ i, i < [(⟨0, 1, 0, 1, 0, 1, 0, 1⟩ : Pc)].length → PcOK (pcg [⟨0, 1, 0, 1, 0, 1, 0, 1⟩] i) := fun i hi => by
   obtain rfl : i = 0 := by simpa using hi
   exact ⟨o, o, o, o⟩
  exact ⟨ok_of_up (by simp) (by simp) hvv up, up, rfl, rfl, rfl, by rw [hz]; rfl, rfl, rfl, by simp, tz⟩
 ·have t0 := top_pos (by omega) R0 F0 V0 ht
  have t1 : t ≤ 8192 := by have := ht.2.1; omega
  obtain ⟨T0, T1, k0, k1, rf0, rf1, w0, w1, a0, a1, b0, b1, c0, c1, e0, e1⟩ := curve_b (by omega) d2 R0 R1 F0 F1 V0 V1 ht;have hQ := qL_curve (d := d) (R := m.rise) (F := m.fall) (t := t) hz R0 F0 t0;have cR := cast_pos (d := m.rise) (by omega);have cF := cast_pos (d := m.fall) (by omega);have ct := cast_pos (d := t) (by omega)
  have hk : ((kP d m.rise m.fall t : Int) : Rat) = 2 * (m.rise : Rat) * (m.fall : Rat) * (d : Rat) - (t : Rat) * (t : Rat) * ((m.rise : Rat) + (m.fall : Rat)) := by
   unfold kP; simp
  have vd := valid_one (n := d) (by omega) (by omega);have vt := valid_one (n := t) (by omega) (by omega);have p0 : PcOK ⟨0, 1, 0, 1, 0, 1, lowN m.rise 2, lowD m.rise 2⟩ := ⟨o, o, o, valid_low (by decide) (by omega) (by omega) (by decide)⟩;have p1 : PcOK ⟨lowN t m.rise, lowD t m.rise, lowN (t * t) (2 * m.rise), lowD (t * t) (2 * m.rise), t, 1, 0, 1⟩ := ⟨valid_low (by omega) (by omega) (by omega) (by omega), valid_low (by omega) (by omega) (by omega) (by omega), vt, o⟩;have p2 : PcOK ⟨lowN (2 * m.fall * (t * t) + kP d m.rise m.fall t) (2 * m.rise * m.fall * t), lowD (2 * m.fall * (t * t) + kP d m.rise m.fall t) (2 * m.rise * m.fall * t), lowN (2 * m.fall * d - t * t) (2 * m.fall), lowD (2 * m.fall * d - t * t) (2 * m.fall), t, 1, lowN (-m.fall) 2, lowD (-m.fall) 2⟩ := ⟨valid_low (by omega) (by omega) (by omega) (by omega), valid_low (by omega) (by omega) (by omega) (by omega), vt, valid_low (by decide) (by omega) (by omega) (by decide)⟩;have p3 : PcOK ⟨lowN (2 * m.fall * (t * t) + kP d m.rise m.fall t + 2 * m.rise * (t * t)) (2 * m.rise * m.fall * t), lowD (2 * m.fall * (t * t) + kP d m.rise m.fall t + 2 * m.rise * (t * t)) (2 * m.rise * m.fall * t), d, 1, 0, 1, 0, 1⟩ := ⟨valid_low (by omega) (by omega) (by omega) (by omega), vd, o, o⟩
  by_cases kz : kP d m.rise m.fall t = 0
  ·rw [if_pos kz] at hQ
   have up : Up (t : Rat) (qL (curveL d m.rise m.fall t)) := by rw [hQ]; exact moveS_up cR cF ct hk (by rw [kz]; rfl)
   unfold curveL at up ⊢;rw [if_neg hz, if_pos kz] at up ⊢;refine ⟨ok_of_up (by simp) (by simp) (fun i hi => ?_) up, up, rfl, rfl, rfl, rfl, rfl, rfl, by simp, tz⟩;have hi' : i < 3 := by simpa using hi
   obtain rfl | rfl | rfl : i = 0 ∨ i = 1 ∨ i = 2 := by omega
   ·exact p0
   ·exact p2
   ·exact p3
  ·rw [if_neg kz] at hQ
   have up : Up (t : Rat) (qL (curveL d m.rise m.fall t)) := by rw [hQ]; exact moveQ_up cR cF ct hk (Rat.intCast_pos.2 (by omega))
   unfold curveL at up ⊢;rw [if_neg hz, if_neg kz] at up ⊢;refine ⟨ok_of_up (by simp) (by simp) (fun i hi => ?_) up, up, rfl, rfl, rfl, rfl, rfl, rfl, by simp, tz⟩;have hi' : i < 4 := by simpa using hi
   obtain rfl | rfl | rfl | rfl : i = 0 ∨ i = 1 ∨ i = 2 ∨ i = 3 := by omega
   ·exact p0
   ·exact p1
   ·exact p2
   ·exact p3
theorem MoveC.last {L : List Pc} {d t : Int} (h : MoveC L d t) : lastA (qL L) = (d : Rat) ∧ lastF (qL L) = fr ((pcg L (L.length - 1)).f0, (pcg L (L.length - 1)).f1) := by
 have g : ∀ (Q : List QP) (h : 0 < Q.length), lastA Q = (Q[Q.length - 1]'(by omega)).a ∧ lastF Q = (Q[Q.length - 1]'(by omega)).f := by
  intro Q
  induction Q with
  | nil => intro h; simp at h
  | cons p r ih =>
   intro _
   cases r with
   | nil => exact ⟨rfl, rfl⟩
   | cons q r =>
    obtain ⟨a, b⟩ := ih (by simp);have e1 : lastA (p :: q :: r) = lastA (q :: r) := rfl;have e2 : lastF (p :: q :: r) = lastF (q :: r) := rfl;rw [e1, e2, a, b];exact ⟨rfl, rfl⟩
 have hp := h.ok.pos;obtain ⟨a, b⟩ := g (qL L) (by rw [qL_len]; omega);rw [a, b];have hl := qL_len L
 constructor
 ·rw [qL_get]
  have e : (qL L).length - 1 = L.length - 1 := by omega
  rw [e, ← frq_one d, ← h.an]
  rfl
 ·rw [qL_f]
  have e : (qL L).length - 1 = L.length - 1 := by omega
  rw [e]
theorem MoveC.first {L : List Pc} {d t : Int} (h : MoveC L d t) : headA (qL L) = 0 := by
 rw [headA_qL h.ok.pos, h.a0, frq_zero]
theorem MoveC.values {L : List Pc} {d t : Int} (h : MoveC L d t) {x y : Int × Int} (vx : vF x = true) (vy : vF y = true) (xy : fr x ≤ fr y) (hx : (atP L x).2.2 = 0) (hy : (atP L y).2.2 = 0) :
  0 ≤ (atP L x).1 ∧ (atP L x).1 * (atP L y).2.1 ≤ (atP L y).1 * (atP L x).2.1 ∧ (atP L y).1 * 1 ≤ d * (atP L y).2.1 := by
 have ex := atP_ok h.ok vx hx;have ey := atP_ok h.ok vy hy;have wx := atP_valid h.ok vx hx;have wy := atP_valid h.ok vy hy;obtain ⟨r1, r2, _⟩ := h.up.range (fr x);obtain ⟨s1, s2, _⟩ := h.up.range (fr y);have mo := h.up.mono xy;rw [← ex] at r1 mo;rw [← ey] at mo s2;rw [h.first] at r1;rw [h.last.1] at s2;refine ⟨?_, ?_, ?_⟩
 ·rw [← frq_zero] at r1
  have := (frq_le (a := (0, 1)) (by decide) (den_pos wx)).1 r1;have e : 0 * (atP L x).2.1 ≤ (atP L x).1 * 1 := this;omega
 ·exact (frq_le (den_pos wx) (den_pos wy)).1 mo
 ·rw [← frq_one] at s2
  exact (frq_le (b := (d, 1)) (den_pos wy) (by show (0 : Int) < 1; decide)).1 s2
theorem MoveC.slope {L : List Pc} {d t : Int} (h : MoveC L d t) {x : Int × Int} (vx : vF x = true) (hx : (slopeP L x).2.2 = 0) : 0 ≤ (slopeP L x).1 ∧ (slopeP L x).1 * 1 ≤ t * (slopeP L x).2.1 := by
 have ex := slopeP_ok h.ok vx hx;have wx := slopeP_valid h.ok vx hx;obtain ⟨r1, r2⟩ := h.up.slope (fr x);rw [← ex] at r1 r2
 constructor
 ·rw [← frq_zero] at r1
  have := (frq_le (a := (0, 1)) (by decide) (den_pos wx)).1 r1;have e : 0 * (slopeP L x).2.1 ≤ (slopeP L x).1 * 1 := this;omega
 ·rw [← frq_one] at r2
  exact (frq_le (b := (t, 1)) (den_pos wx) (by show (0 : Int) < 1; decide)).1 r2
end
section
open Go.RowKit Go.Shelf
theorem mvO_hit {M : List Mv} {s : ByteArray} (h : mvB M s = true) : ∃ i, i < M.length ∧ mvO M s = mg M i := by
 rcases mov_first_cases M (fun y => decide (y.name = s)) with ⟨e, _⟩ | ⟨i, hi, e, _, _⟩
 ·rw [(mv_no (M := M) (s := s) e).1] at h
  cases h
 ·exact ⟨i, hi, (mv_yes (M := M) (s := s) e).2⟩
theorem way_ok {h : HouseR} {s : SheetR} {k n : Nat} {nme : ByteArray} {m : Mv} {z : Int} (hok : SheetOK h s) (hk : k < h.sets.length) (hn : n < s.cues.length) (hb : mvB (cg s.cues n).moves nme = true) (hm : mvO (cg s.cues n).moves nme = m) (hz : ig (trimL h s.cues n) k = z) :
  0 ≤ z ∧ z ≤ 1048576 ∧ 0 ≤ m.to ∧ m.to ≤ 1048576 ∧ givenP (if z ≤ m.to then m.to - z else z - m.to) m = 0 := by
 obtain ⟨i, hi, e⟩ := mvO_hit hb;rw [e] at hm;have hr := (hok.each n hn).1;have ht := trim_ok hok.house (fun j hj => (hok.each j hj).1) n (by omega);have hmo := hr.2 i hi;have w := move_within hok.house ht hmo;have t1 := ht.2 k (by have := ht.1; omega);have lo := (house_set hok.house hk).1.low;rw [hz] at t1;rw [hm] at w;have zz : 0 ≤ z ∧ z ≤ 1048576 := by omega
 refine ⟨zz.1, zz.2, w.1, w.2.1, ?_⟩;unfold givenP;rw [if_pos (by rw [← hm]; exact hmo.1), if_pos (inB_iff.2 ?_)]
 split <;> omega
theorem z_ok {h : HouseR} {s : SheetR} {k n : Nat} {z : Int} (hok : SheetOK h s) (hk : k < h.sets.length) (hn : n < s.cues.length) (hz : ig (trimL h s.cues n) k = z) : 0 ≤ z ∧ z ≤ 1048576 := by
 have ht := trim_ok hok.house (fun j hj => (hok.each j hj).1) n (by omega);have t1 := ht.2 k (by have := ht.1; omega);have lo := (house_set hok.house hk).1.low;rw [hz] at t1;omega
theorem way_curve {d : Int} {m : Mv} {W : List Pc} (hg : givenP d m = 0) (hW : curveL d m.rise m.fall (topV d m) = W) (w : World) :
  Calls Tryz.prog 80 #[.int .i64 d, .agg #[.string m.name, .int .i64 m.to, .int .i64 m.spd, .int .i64 m.rise, .int .i64 m.fall]] w fun e w' => (∃ cb cc : Nat, e = .returned (.tuple #[.slice (some ⟨cb, 0, none⟩) W.length cc, .int .i64 0]) ∧ w.heap.size ≤ cb ∧ cb < w'.heap.size ∧ W.length ≤ cc ∧ Hid (Pcs w'.heap.size w' (some ⟨cb, 0, none⟩) W)) ∧ Below w.heap.size w w' := by
 have hL : 1 ≤ W.length := by rw [← hW]; exact (move_c hg (top_is hg)).ok.pos
 refine (Curve_any d m (topV d m) (fun g => top_is g) w).mono ?_;rintro e w' ⟨HV, hb⟩;refine ⟨?_, hb⟩;obtain ⟨v, rfl, h1, h2⟩ := HV.out;have hr := h1 hg;rw [hW] at hr;obtain ⟨a, c, rfl, hc, _, _, hp⟩ := pc_of_row hr;obtain ⟨g, rfl, hb1, hb2⟩ := row_addr hr (by omega);exact ⟨g, c, by rw [hg], hb1, hb2, hc, lh hp⟩
theorem way_piece {d : Int} {m : Mv} {W : List Pc} (hg : givenP d m = 0) (hW : curveL d m.rise m.fall (topV d m) = W) {j : Nat} (hj : j < W.length) : PcOK (pcg W j) := by
 subst hW;exact (move_c hg (top_is hg)).ok.val j hj
theorem vf_bd {n d : Int} (h : validF n d = true) : -1152921504606846976 ≤ n ∧ n ≤ 1152921504606846976 := by
 obtain ⟨_, _, a, b, _⟩ := (validF_iff _ _).1 h;exact ⟨by omega, by omega⟩
structure Kept (W w : World) (r : Nat) (v : Value) : Prop where
 grown : W.grownBy w (some r)
 lies : v.ownBlock = some r ∨ ∃ g, v.ownBlock = some g ∧ W.heap.size ≤ g
theorem Kept.start {W : World} {r : Nat} {v : Value} (h : v.ownBlock = some r) : Kept W W r v := ⟨World.grownBy.refl _ _, .inl h⟩
theorem Kept.below {W w w' : World} {r : Nat} {v : Value} (h : Kept W w r v) (z : Below w.heap.size w w') : Kept W w' r v :=
 ⟨⟨z.os.trans h.grown.os, z.tape.trans h.grown.tape, z.output.trans h.grown.output, Nat.le_trans h.grown.size z.size, fun k hk hne => (z.block k (Nat.lt_of_lt_of_le hk h.grown.size)).trans (h.grown.block k hk hne)⟩, h.lies⟩
theorem Kept.step {W w w' : World} {r : Nat} {v v' : Value} (h : Kept W w r v) (g : w.grownBy w' v.ownBlock) (e : v'.ownBlock = v.ownBlock ∨ v'.ownBlock = some w.heap.size) : Kept W w' r v' := by
 refine ⟨⟨g.os.trans h.grown.os, g.tape.trans h.grown.tape, g.output.trans h.grown.output, Nat.le_trans h.grown.size g.size, fun k hk hne => ?_⟩, ?_⟩
 ·refine (g.block k (Nat.lt_of_lt_of_le hk h.grown.size) (fun e2 => ?_)).trans (h.grown.block k hk hne)
  rcases h.lies with l | ⟨j, l, lj⟩
  ·exact hne (e2.trans l)
  ·rw [l] at e2; cases e2; omega
 ·rcases e with e | e
  ·rw [e]; exact h.lies
  ·exact .inr ⟨_, e, h.grown.size⟩
theorem Kept.cell {W w : World} {r : Nat} {v : Value} (h : Kept W w r v) {p : Addr} (hp : p.block < W.heap.size) (hr : p.block ≠ r) : w.cell? p = W.cell? p :=
 h.grown.cell_far p hp (fun e => hr (by cases e; rfl))
theorem Kept.under {W0 W w : World} {r n : Nat} {v : Value} (h : Kept W w r v) (hb : Below n W0 W) (hn : n ≤ W.heap.size) (hr : n ≤ r) : Below n W0 w :=
 hb.grown h.grown hn (fun k e => by cases e; exact hr)
theorem Kept.pcs {W w : World} {r cb n : Nat} {v : Value} {L : List Pc} (h : Kept W w r v) (hc : cb < W.heap.size) (hr : cb ≠ r) (hp : Pcs n W (some ⟨cb, 0, none⟩) L) {j : Nat} (hj : j < L.length) :
  w.cell? ⟨cb, j * 8, none⟩ = some (.int .i64 (pcg L j).f0) ∧ w.cell? ⟨cb, j * 8 + 1, none⟩ = some (.int .i64 (pcg L j).f1) ∧ w.cell? ⟨cb, j * 8 + 2, none⟩ = some (.int .i64 (pcg L j).a0) ∧ w.cell? ⟨cb, j * 8 + 3, none⟩ = some (.int .i64 (pcg L j).a1) ∧ w.cell? ⟨cb, j * 8 + 4, none⟩ = some (.int .i64 (pcg L j).b0) ∧ w.cell? ⟨cb, j * 8 + 5, none⟩ = some (.int .i64 (pcg L j).b1) ∧ w.cell? ⟨cb, j * 8 + 6, none⟩ = some (.int .i64 (pcg L j).c0) ∧ w.cell? ⟨cb, j * 8 + 7, none⟩ = some (.int .i64 (pcg L j).c1) := by
 obtain ⟨b, o, e, _, hcc⟩ := hp (by omega)
 cases e
 obtain ⟨c0, c1, c2, c3, c4, c5, c6, c7⟩ := hcc j hj;simp only [Nat.zero_add] at c0 c1 c2 c3 c4 c5 c6 c7;exact ⟨(h.cell (p := ⟨cb, _, none⟩) hc hr).trans c0, (h.cell (p := ⟨cb, _, none⟩) hc hr).trans c1, (h.cell (p := ⟨cb, _, none⟩) hc hr).trans c2, (h.cell (p := ⟨cb, _, none⟩) hc hr).trans c3, (h.cell (p := ⟨cb, _, none⟩) hc hr).trans c4, (h.cell (p := ⟨cb, _, none⟩) hc hr).trans c5, (h.cell (p := ⟨cb, _, none⟩) hc hr).trans c6, (h.cell (p := ⟨cb, _, none⟩) hc hr).trans c7⟩
theorem pb_from (q : Pc) {w : World} {b : Nat} {p : Pc} (z : PB w b p) : PB (setFrom w b 0 [.int .i64 q.f0, .int .i64 q.f1, .int .i64 q.a0, .int .i64 q.a1, .int .i64 q.b0, .int .i64 q.b1, .int .i64 q.c0, .int .i64 q.c1]) b q := by
 obtain ⟨c0, c1, c2, c3, c4, c5, c6, c7⟩ := pc_from q z;exact ⟨c0, c1, c2, c3, c4, c5, c6, c7, fun i => by simpa [setFrom] using z.free i⟩
theorem lastP_eq {out : List Pc} {n : Nat} (h : out.length = n + 1) : lastP out = pcg out n := by unfold lastP; rw [h]; rfl
theorem putP_set {out : List Pc} {n : Nat} {y : Pc} (h : out.length = n + 1) (e : (pcg out n).f0 = y.f0 ∧ (pcg out n).f1 = y.f1) : putP out y = out.set n y := by unfold putP; rw [lastP_eq h, if_pos e, h]; rfl
theorem putP_app {out : List Pc} {n : Nat} {y : Pc} (h : out.length = n + 1) (e : ¬ ((pcg out n).f0 = y.f0 ∧ (pcg out n).f1 = y.f1)) : putP out y = out ++ [y] := by unfold putP; rw [lastP_eq h, if_neg e]
theorem grown_set {w : World} {g : Nat} : ∀ (vs : List Value) (W : World) (j : Nat), w.grownBy W (some g) → w.grownBy (setFrom W g j vs) (some g)
 | [], _, _, h => h
 | v :: vs, W, j, h => grown_set vs _ (j + 1) ⟨h.os, h.tape, h.output, by simpa [World.setCell] using h.size, fun k hk hne => (RowKit.Below.heap_setCell W ⟨g, j, none⟩ v k (fun e => hne (by rw [e]))).trans (h.block k hk hne)⟩
theorem frac_und : Tryz.prog.underlying 49 = some (.struct (Tryz.prog.fieldsOf 49)) := by
 unfold Program.fieldsOf;rw [Tryz.underlying49]
theorem frac_held : Tryz.prog.stoodInHeld 49 = false := by kernel_rfl
theorem frac_guard : Tryz.prog.eqGuardType Tryz.prog.depth 49 = false := by kernel_rfl
theorem frac_eql (w : World) (a b c d : Int) : (binOp .eql 49 (.agg #[.int .i64 a, .int .i64 b]) (.agg #[.int .i64 c, .int .i64 d])).run Tryz.prog w = .ok (.bool ((a == c) && (b == d))) w := by
 rw [run_eql_struct, show (10000 : Nat) = 9998 + 1 + 1 from rfl, run_equalIn_agg _ _ _ _ _ frac_und frac_held];unfold Program.fieldsOf;rw [Tryz.underlying49];cases h : a == c
 ·go_simp
 ·go_simp
  by_cases e : b = d
  ·simp [e]
  ·simp [e]
theorem frac_eqg (w : World) (x y : Operand) (xs ys : Array Value) : (eqGuard .eql 49 x y (.agg xs) (.agg ys)).run Tryz.prog w = .ok () w := run_eqGuard_agg _ _ _ _ _ _ _ frac_guard
theorem exec_eql (ρ : Operand → Value) (o : Oper) (x y : Operand) (yt : TypeId) (a b c d : Int) (ho : o.op = .binOp .eql 49 x y yt) (hx : ρ x = .agg #[.int .i64 a, .int .i64 b]) (hy : ρ y = .agg #[.int .i64 c, .int .i64 d]) (w : World) : (execOp ρ o).run Tryz.prog w = .ok (.value (.bool ((a == c) && (b == d)))) w := by
 unfold execOp;rw [ho];simp only [hx, hy, Sem.run_bind, frac_eqg, Result.andThen_ok, frac_eql, Sem.run_pure]
end
section
open Go.RowKit Go.Shelf
attribute [local go_sem] Oper.semAt_some
structure PathIn (w : World) (h : HouseR) (s : SheetR) (ta : Option Addr) (P : List LstR) (sa : Option Addr) (S : List Int) : Prop where
 hh : HouseIn w h
 hs : SheetIn w s
 hT : TrimsIn w ta h s.cues P
 hS : Nums w.heap.size w sa S
theorem PathIn.grow {w w' : World} {h : HouseR} {s : SheetR} {ta : Option Addr} {P : List LstR} {sa : Option Addr} {S : List Int} (x : PathIn w h s ta P sa S) (hb : Below w.heap.size w w') : PathIn w' h s ta P sa S := ⟨x.hh.grow hb, x.hs.grow hb, x.hT.grow hb, x.hS.grow hb⟩
theorem sheetAt_new (w : World) (s : SheetR) : SheetAt (w.alloc (LSh s)) w.heap.size s := by unfold SheetAt; simp
theorem boxPHS {w : World} {h : HouseR} {s : SheetR} {ta : Option Addr} {P : List LstR} {sa : Option Addr} {S : List Int} (tc : Nat) (na : Option Addr) (N : List Int) (sc nc : Nat) (x : PathIn w h s ta P sa S) :
  ∃ W0, (((w.alloc (.cells #[.slice ta P.length tc, .slice sa S.length sc, .slice na N.length nc] 109)).alloc (LHo h)).alloc (LSh s)) = W0 ∧ Hid (∀ w', Below W0.heap.size W0 w' → PC w' w.heap.size (.slice ta P.length tc) (.slice sa S.length sc) (.slice na N.length nc) ∧ HouseAt w' (w.heap.size + 1) h ∧ SheetAt w' (w.heap.size + 1 + 1) s ∧ PathIn w' h s ta P sa S ∧ Below w.heap.size w w') := by
 have hb : Below w.heap.size w (((w.alloc (.cells #[.slice ta P.length tc, .slice sa S.length sc, .slice na N.length nc] 109)).alloc (LHo h)).alloc (LSh s)) := ((below_new w _).alloc (by simp) _).alloc (by simp; omega) _;have hH := (HouseAt.new (w.alloc (.cells #[.slice ta P.length tc, .slice sa S.length sc, .slice na N.length nc] 109)) h 25).carry (below_new _ (LSh s));rw [show (w.alloc (.cells #[.slice ta P.length tc, .slice sa S.length sc, .slice na N.length nc] 109)).heap.size = w.heap.size + 1 by simp] at hH;have hS' := sheetAt_new ((w.alloc (.cells #[.slice ta P.length tc, .slice sa S.length sc, .slice na N.length nc] 109)).alloc (LHo h)) s;rw [show ((w.alloc (.cells #[.slice ta P.length tc, .slice sa S.length sc, .slice na N.length nc] 109)).alloc (LHo h)).heap.size = w.heap.size + 1 + 1 by simp] at hS';exact ⟨_, rfl, lh fun w' z => ⟨(((PC.put w (.slice ta P.length tc) (.slice sa S.length sc) (.slice na N.length nc) 109).carry (below_new _ _)).carry (below_new _ _)).carry z, hH.carry z, hS'.carry z, (x.grow hb).grow z, hb.trans (z.mono hb.size)⟩⟩
def PathV (w w' : World) (v : Value) (r : List Pc × Int) : Prop := (r.2 = 0 → w'.ownsRow w.heap.size 122 8 v r.1.length (pcflat r.1)) ∧ (r.2 ≠ 0 → v = .slice none 0 0)
theorem tpath_any (h : HouseR) (s : SheetR) (ta : Option Addr) (P : List LstR) (tc : Nat) (sa na : Option Addr) (S N : List Int) (sc nc k : Nat) (w : World) (hx : PathIn w h s ta P sa S) (hSl : S.length = s.cues.length) (hok : SheetOK h s) (hk : k < h.sets.length) (hb1 : ∀ i, i < s.cues.length → 0 ≤ ig S i ∧ ig S i ≤ 1099511627776) :
  Calls Tryz.prog 48 #[.agg #[.slice ta P.length tc, .slice sa S.length sc, .slice na N.length nc], .agg #[.string h.name, .int .i64 h.height, .slice h.sa h.sets.length h.sc, .slice h.ra h.roofs.length h.rc], .agg #[.slice s.ca s.cues.length s.cc, .slice s.pa s.pairs.length s.pc], .int .i64 k] w fun e w' => Hid (∃ v, e = .returned (.tuple #[v, .int .i64 (pathP h s.cues S k).2]) ∧ PathV w w' v (pathP h s.cues S k)) ∧ Below w.heap.size w w' := by
 have hcl := hok.cues;have hcc : s.cues.length ≤ s.cc := hx.hs.ccap;have hsc : h.sets.length ≤ h.sc := hx.hh.scap;have HML := lh hx.hs.mlen;have HCP := lh hx.hs.mcap;have HSL := lh hSl;have HOK := lh hok;have HB1 := lh hb1;have HPL := lh hx.hT.rows.len;have HTR := lh hx.hT.rows;obtain ⟨W0, hW0, HX⟩ := boxPHS tc na N sc nc hx;have k0 : 0 ≤ (k : Int) := by omega
 have k1 : (k : Int) < (h.sets.length : Int) := by omega
 obtain ⟨Hh, hHh⟩ := nm ((hg h.sets k).high);obtain ⟨nme, hnm⟩ := nm ((hg h.sets k).name);obtain ⟨ca, hca⟩ := nm (s.ca);have HCA := lh hca;obtain ⟨hb, ho, hha, hhl, hhc⟩ := (HX.out _ br).2.2.2.1.hh.sets (by omega);have HHC : Hid (W0.cell? ⟨hb, ho + k * 13, none⟩ = some (.string nme) ∧ W0.cell? ⟨hb, ho + k * 13 + 3, none⟩ = some (.int .i64 Hh)) := lh (by obtain ⟨e0, _, _, e3, _⟩ := hhc k hk; rw [hnm] at e0; rw [hHh] at e3; exact ⟨e0, e3⟩);have HHA := lh hha;have HHL := lh hhl;have HNM := lh hnm;have HP0 : Hid (pathTo h s.cues S k 0 = ([⟨0, 1, Hh, 1, 0, 1, 0, 1⟩], 0)) := lh (by rw [← hHh]; rfl);clear hx hSl hok hb1 hHh hnm hca hha hhl hhc
 go_enter Tryz.func48, Tryz.ntmps48
 go_upto_region 1 with (fail)
 try simp only [hW0]
 clear hW0
 go_upto_region 2 with (go_at_call 76; (with_reducible refine (twhole_any 0 _).mono ?_); rintro e w1 ⟨rfl, hb1⟩)
 have hbz := hb1.alloc hb1.size (.cells #[.int .i64 0, .int .i64 1] 49);have hfz := FI.put w1 0 1 49;clear hb1;obtain ⟨Bz, hBz⟩ := nm (w1.heap.size);obtain ⟨W1, hW1⟩ := nm (w1.alloc (.cells #[.int .i64 0, .int .i64 1] 49));rw [hW1] at hbz hfz;simp only [hW1];rw [hBz] at hfz;simp only [hBz];clear hW1 hBz;have HB1' : Hid (Below W0.heap.size W0 W1) := lh hbz;have HX1 : Hid (∀ w', Below W1.heap.size W1 w' → Below W0.heap.size W0 w') := lh fun w' z => hbz.trans (z.mono hbz.size)
 go_cut [11] (fun v wx => Below W1.heap.size W1 wx ∧ Hid (wx.ownsRow W1.heap.size 122 8 v 1 (pcflat [⟨0, 1, Hh, 1, 0, 1, 0, 1⟩])))
 case first =>
  have z0 : ∀ w', Below W1.heap.size W1 w' → w'.cell? ⟨Bz, 0, none⟩ = some (.int .i64 0) := fun w' z => (hfz.carry z).1;have z1 : ∀ w', Below W1.heap.size W1 w' → w'.cell? ⟨Bz, 1, none⟩ = some (.int .i64 1) := fun w' z => (hfz.carry z).2.1;have e2 : ∀ w', Below W1.heap.size W1 w' → w'.cell? ⟨w.heap.size + 1, 2, none⟩ = some (.slice (some ⟨hb, ho, none⟩) h.sets.length h.sc) := fun w' z => by have := (HX.out _ (HX1.out _ z)).2.1.2.2.1; rwa [HHA.out] at this
  have e3 : ∀ w', Below W1.heap.size W1 w' → w'.cell? ⟨hb, ho + k * 13 + 3, none⟩ = some (.int .i64 Hh) := fun w' z => ((HX1.out _ z).cell (p := ⟨hb, _, none⟩) HHL.out).trans HHC.out.2;refine wp_region_held_drew (S := fun w' => Below W1.heap.size W1 w') (by kernel_rfl) (br).drew (fun hHeld => ?_);refine tk 0 ?_; refine tk 1 ?_; refine tk 2 ?_; refine tk 3 ?_; refine tk 4 ?_; refine tk 5 ?_; refine tk 6 ?_; refine tk 8 ?_; refine tk 9 ?_;refine cl 7 (twhole_any Hh _) (fun _ hb => hHeld.trans (hb.mono hHeld.size)) (fun y1 hb2 hH1 => ?_);refine tk 10 ?_;refine ry [11] (vl 11 (w1 := y1.alloc (.cells #[.int .i64 0, .int .i64 1, .int .i64 Hh, .int .i64 1, .int .i64 0, .int .i64 1, .int .i64 0, .int .i64 1] 122)) (hH1.alloc hH1.size _) (fun hH2 => ?_) nl);refine tk 12 ?_; refine dn ?_
  go_wp2_with fail
  go_meet
  have hol := World.ownsRow_lit (base := W1.heap.size) (e := 122) (size := 8) y1 #[.int .i64 0, .int .i64 1, .int .i64 Hh, .int .i64 1, .int .i64 0, .int .i64 1, .int .i64 0, .int .i64 1] 1 hH1.size (by unfold maxLen; omega) rfl;exact ⟨hH2, lh hol⟩
 case rest =>
 obtain ⟨hB, HO⟩ := hcut;clear hbz hfz;have hw0 := HX1.out _ hB;obtain ⟨-, ⟨a0, a1, a2, a3⟩, ⟨s0, s1⟩, -⟩ := HX.out _ hw0;rw [HCA.out] at s0
 go_upto_region 4 with (fail)
 clear a0 a1 a2 a3 s0 s1 hw0
 go_loopw [11, 39] (fun v11 iv wr => ∃ n : Nat, iv = .int .i64 n ∧ n ≤ s.cues.length ∧ Below W1.heap.size W1 wr ∧ Hid ((pathTo h s.cues S k n).2 = 0 ∧ wr.ownsRow W1.heap.size 122 8 v11 (pathTo h s.cues S k n).1.length (pcflat (pathTo h s.cues S k n).1))) (fun _ iv _ => s.cues.length - (intOf iv).toNat)
 case atStart => exact ⟨0, rfl, Nat.zero_le _, hB, lh (by rw [HP0.out]; exact ⟨rfl, HO.out⟩)⟩
 case round =>
  clear hB HO;obtain ⟨n, rfl, hn, hB, HO⟩ := hrel;obtain ⟨wi, rfl⟩ : ∃ wo : World, wo = wr := ⟨_, rfl⟩
  by_cases hlt : n < s.cues.length
  case neg =>
   obtain rfl : n = s.cues.length := by omega
   have hws : w.heap.size ≤ W1.heap.size := (HX.out _ (HX1.out _ br)).2.2.2.2.size;have hwb := (HX.out _ (HX1.out _ hB)).2.2.2.2;obtain ⟨xa, xc, rfl, hxl, hxm, -, -⟩ := pc_of_row HO.out.2;have HP := lh HO.out.1;obtain ⟨O, hO⟩ := nm ((pathTo h s.cues S k s.cues.length).1);rw [hO] at HO hxl;simp only [hO];have HOO := lh hO;clear hO;have hol : O.length ≤ 1000 := by rw [← HOO.out]; have := (pathTo_len h s.cues S k _ HP.out).2; omega
   by_cases hL : (200 : Int) < (O.length : Int)
   ·have HE : Hid (pathP h s.cues S k = ([], 4)) := lh (pathP_full HP.out (by rw [HOO.out]; omega))
    go_wp2_with fail
    go_ret2
    exact ⟨lh ⟨_, by first | rfl | (rw [HE.out]; rfl) | rw [HE.out], by rw [HE.out]; exact ⟨fun e => absurd e (by decide), fun _ => rfl⟩⟩, hwb⟩
   ·have HE : Hid (pathP h s.cues S k = (O, 0)) := lh (by rw [pathP_ok HP.out (by rw [HOO.out]; omega), ← HOO.out, ← HP.out])
    go_wp2_with fail
    go_ret2
    exact ⟨lh ⟨_, by first | rfl | (rw [HE.out]; rfl) | rw [HE.out], by rw [HE.out]; exact ⟨fun _ => ownsRow_base HO.out.2 hws, fun e => absurd rfl e⟩⟩, hwb⟩
  obtain ⟨xb, xo, hxa, hxb, hxc⟩ := (HX.out _ (HX1.out _ hB)).2.2.2.1.hs.lies (by omega);rw [HCA.out] at hxa;subst hxa;obtain ⟨c0, c1, c2, c3, c4, c5, c6⟩ := hxc n hlt;obtain ⟨q, hq⟩ := nm (cg s.cues n);rw [hq] at c0 c1 c2 c3 c4 c5 c6;have HQ := lh hq;have i0 : 0 ≤ (n : Int) := by omega
  have i1 : (n : Int) < (s.cues.length : Int) := by omega
  have iw : IntKind.i64.wrap ((n : Int) + 1) = (n : Int) + 1 := IntWalk.i64_in _ (by omega);have hbn := below_new wi (LCu q);have hqn := CueAt.new wi q 86 _ rfl;clear hq hxc
  go_upto_region 6 with (fail)
  clear c0 c1 c2 c3 c4 c5 c6;obtain ⟨Bq, hBq⟩ := nm (wi.heap.size);obtain ⟨Wq, hWq⟩ := nm (wi.alloc (LCu q));rw [hWq] at hbn hqn;simp only [hWq];rw [hBq] at hqn;simp only [hBq];have hle := hB.size;have HBQ : Hid (Below W1.heap.size W1 Wq) := lh (hB.trans (hbn.mono hle));have HOQ := lh (ownsRow_below HO.out.2 hbn);have HP := lh HO.out.1;have HQA : Hid (∀ w', Below Wq.heap.size Wq w' → CueAt w' Bq q) := lh fun w' z => hqn.carry z;have HXQ : Hid (∀ w', Below Wq.heap.size Wq w' → Below W0.heap.size W0 w') := lh fun w' z => HX1.out _ (HBQ.out.trans (z.mono HBQ.out.size));obtain ⟨O, hO⟩ := nm ((pathTo h s.cues S k n).1);rw [hO] at HOQ;have HOO := lh hO;obtain ⟨m, hm⟩ := nm (mvO q.moves nme);obtain ⟨b, hbb⟩ := nm (mvB q.moves nme);have HM := lh hm;have HBB := lh hbb;clear hWq hBq hbn hqn hB HO hO hle
  go_cut [14, 15] (fun v14 v15 wx => ∃ (Bm : Nat) (W4 : World), W4 = wx ∧ v14 = .pointer (some ⟨Bm, 0, none⟩) ∧ v15 = .bool b ∧ Below Wq.heap.size Wq wx ∧ Hid (MvAt wx Bm m) ∧ Hid (Wq.heap.size ≤ Bm))
  case first =>
   have f0 : ∀ w', Below Wq.heap.size Wq w' → CueAt w' Bq q := HQA.out;have q0 : ∀ w', Below Wq.heap.size Wq w' → w'.cell? ⟨Bq, 0, none⟩ = some (.string q.name) := fun w' z => (f0 w' z).1;have q1 : ∀ w', Below Wq.heap.size Wq w' → w'.cell? ⟨Bq, 1, none⟩ = some (.string q.after) := fun w' z => (f0 w' z).2.1;have q2 : ∀ w', Below Wq.heap.size Wq w' → w'.cell? ⟨Bq, 2, none⟩ = some (.int .i64 q.link) := fun w' z => (f0 w' z).2.2.1;have q3 : ∀ w', Below Wq.heap.size Wq w' → w'.cell? ⟨Bq, 3, none⟩ = some (.int .i64 q.delay) := fun w' z => (f0 w' z).2.2.2.1;have q4 : ∀ w', Below Wq.heap.size Wq w' → w'.cell? ⟨Bq, 4, none⟩ = some (.slice q.ma q.moves.length q.mc) := fun w' z => (f0 w' z).2.2.2.2.1;have q5 : ∀ w', Below Wq.heap.size Wq w' → w'.cell? ⟨Bq, 5, none⟩ = some (.int .i64 q.crew) := fun w' z => (f0 w' z).2.2.2.2.2.1;have q6 : ∀ w', Below Wq.heap.size Wq w' → w'.cell? ⟨Bq, 6, none⟩ = some (.int .i64 q.power) := fun w' z => (f0 w' z).2.2.2.2.2.2;have e2 : ∀ w', Below Wq.heap.size Wq w' → w'.cell? ⟨w.heap.size + 1, 2, none⟩ = some (.slice (some ⟨hb, ho, none⟩) h.sets.length h.sc) := fun w' z => by have := (HX.out _ (HXQ.out _ z)).2.1.2.2.1; rwa [HHA.out] at this
   have e3 : ∀ w', Below Wq.heap.size Wq w' → w'.cell? ⟨hb, ho + k * 13, none⟩ = some (.string nme) := fun w' z => ((HXQ.out _ z).cell (p := ⟨hb, _, none⟩) HHL.out).trans HHC.out.1
   have HTM : Hid (∀ w', Below Wq.heap.size Wq w' → Calls Tryz.prog 79 #[.agg #[.string q.name, .string q.after, .int .i64 q.link, .int .i64 q.delay, .slice q.ma q.moves.length q.mc, .int .i64 q.crew, .int .i64 q.power], .string nme] w' fun e w2 => e = .returned (.tuple #[.agg #[.string m.name, .int .i64 m.to, .int .i64 m.spd, .int .i64 m.rise, .int .i64 m.fall], .bool b]) ∧ Below w'.heap.size w' w2) := lh fun w' z => by
    have hmv := (HX.out _ (HXQ.out _ z)).2.2.2.1.hs.each n hlt;have hml := HML.out n hlt;have hmc := HCP.out n hlt;rw [HQ.out] at hmv hml hmc;have := tmoves_any q nme w' hmv hml hmc
    rwa [hm, hbb] at this
   clear hm hbb f0;have hD : Below Wq.heap.size Wq Wq.drew := (br).drew;refine wp_region_held_drew (S := fun w' => Below Wq.heap.size Wq w') (by kernel_rfl) hD (fun hHeld => ?_);refine tk 0 ?_; refine tk 1 ?_; refine tk 2 ?_; refine tk 3 ?_; refine tk 4 ?_; refine tk 5 ?_; refine tk 6 ?_;refine ry [7, 11] (rc 7 (HTM.out _ hHeld) (fun _ hb => hHeld.trans (hb.mono hHeld.size)) (fun y1 hb2 hH1 => ?_) (al 11 (.cells #[.string ⟨#[]⟩, .int .i64 0, .int .i64 0, .int .i64 0, .int .i64 0] 94) (hHeld.alloc hHeld.size _) (fun Bm y1 eB ey hH1 => ?_) nl))
   ·refine tk 8 ?_; refine tk 9 ?_; refine tk 10 ?_
    refine ry [11] (al 11 (.cells #[.string ⟨#[]⟩, .int .i64 0, .int .i64 0, .int .i64 0, .int .i64 0] 94) (hH1.alloc hH1.size _) (fun Bm y2 eB ey hH2 => ?_) nl);have hz : ZMv y2 Bm := by rw [← ey, ← eB]; exact ZMv.new _
    have hlo : Wq.heap.size ≤ Bm := by rw [← eB]; exact hH1.size
    clear ey eB;have hzz := hz.some;obtain ⟨⟨g0, g1, g2, g3, g4⟩, hff⟩ := hz;have hst : Below Wq.heap.size Wq (setFrom y2 Bm 0 [.string m.name, .int .i64 m.to, .int .i64 m.spd, .int .i64 m.rise, .int .i64 m.fall]) := below_from (m := Wq.heap.size) (b := Bm) (W := Wq) [.string m.name, .int .i64 m.to, .int .i64 m.spd, .int .i64 m.rise, .int .i64 m.fall] y2 0 hH2 hlo;have hmf := mv_from m hzz;refine ry [12] (vl 12 (w1 := setFrom y2 Bm 0 [.string m.name, .int .i64 m.to, .int .i64 m.spd, .int .i64 m.rise, .int .i64 m.fall]) hst (fun hH3 => ?_) nl);refine tk 13 ?_; refine dn ?_
    go_wp2_with fail
    go_meet
    exact ⟨Bm, _, rfl, rfl, rfl, hst, lh hmf, lh hlo⟩
   ·have hz1 : ZMv y1 Bm := by rw [← ey, ← eB]; exact ZMv.new _
    have hlo : Wq.heap.size ≤ Bm := by rw [← eB]; exact hHeld.size
    clear ey eB;refine ry [7] (rc 7 (HTM.out _ hH1) (fun _ hb => hH1.trans (hb.mono hH1.size)) (fun y2 hb2 hH2 => ?_) nl);refine tk 8 ?_; refine tk 9 ?_; refine tk 10 ?_;have hz := hz1.carry hb2;have hzz := hz.some;obtain ⟨⟨g0, g1, g2, g3, g4⟩, hff⟩ := hz;have hst : Below Wq.heap.size Wq (setFrom y2 Bm 0 [.string m.name, .int .i64 m.to, .int .i64 m.spd, .int .i64 m.rise, .int .i64 m.fall]) := below_from (m := Wq.heap.size) (b := Bm) (W := Wq) [.string m.name, .int .i64 m.to, .int .i64 m.spd, .int .i64 m.rise, .int .i64 m.fall] y2 0 hH2 hlo;have hmf := mv_from m hzz;refine ry [12] (vl 12 (w1 := setFrom y2 Bm 0 [.string m.name, .int .i64 m.to, .int .i64 m.spd, .int .i64 m.rise, .int .i64 m.fall]) hst (fun hH3 => ?_) nl);refine tk 13 ?_; refine dn ?_
    go_wp2_with fail
    go_meet
    exact ⟨Bm, _, rfl, rfl, rfl, hst, lh hmf, lh hlo⟩
  case rest =>
  obtain ⟨Bm, W4, rfl, rfl, rfl, hB4, HMA, HBM⟩ := hcut;have hpos : 1 ≤ O.length := by rw [← HOO.out]; exact (pathTo_len h s.cues S k n HP.out).1
  obtain ⟨xa, c0, rfl, hxl, hxm, -, -⟩ := pc_of_row HOQ.out;obtain ⟨g0, rfl, hg1, hg2⟩ := row_addr HOQ.out (by omega);have HG1 := lh hg1;have HG2 := lh hg2;clear hxl hxm hg1 hg2 hpos;obtain ⟨⟨a0, a1, a2, -, -, -, -⟩, -, -, hin, -⟩ := HX.out _ (HXQ.out _ hB4);obtain ⟨tb, tf, hta, htb, htx⟩ := hin.hT.lies (by have := HPL.out; omega);subst hta;have t0 := htx n (by have := HPL.out; omega);have hrl : (lg P n).xs.length = h.sets.length := by rw [HTR.out.eq n hn, trimL_len]
  obtain ⟨zb, zf, hza, hzb, hzx⟩ := hin.hT.each n (by have := HPL.out; omega) (by omega);have t1 := hzx k (by omega);rw [hza, hrl] at t0;rw [HTR.out.eq n hn] at t1;obtain ⟨z, hz⟩ := nm (ig (trimL h s.cues n) k);rw [hz] at t1;have HZ := lh hz;obtain ⟨z0, z1⟩ := z_ok HOK.out hk hlt hz;have p1 : (n : Int) < (P.length : Int) := by have := HPL.out; omega
  obtain ⟨trc, htrc⟩ := nm ((lg P n).c);rw [htrc] at t0;obtain ⟨sb, sf, hsa, -, -⟩ := hin.hS (by rw [HSL.out]; omega);subst hsa
  have HSC : Hid (∀ w', Below W0.heap.size W0 w' → w'.cell? ⟨sb, sf + n, none⟩ = some (.int .i64 (ig S n))) := lh fun w' y => by
   obtain ⟨b', o', e, -, ex⟩ := (HX.out w' y).2.2.2.1.hS (by rw [HSL.out]; omega)
   cases e
   exact ex n (by rw [HSL.out]; omega)
  clear hz hzx hza hrl htx htrc hin
  go_upto_region 8 with (fail)
  clear t0 t1 a0 a1 a2 p1;have HSTAY : Hid (b = false ∨ m.to = z → pathTo h s.cues S k (n + 1) = pathTo h s.cues S k n) := lh fun e => pathTo_stay (by rw [HQ.out, HNM.out, HBB.out, HM.out, HZ.out]; exact e);have HB1W : Hid (Below W1.heap.size W1 W4) := lh (HBQ.out.trans (hB4.mono HBQ.out.size));have HO4 := lh (ownsRow_below HOQ.out hB4);obtain ⟨m0, m1, m2, m3, m4⟩ := HMA.out
  by_cases hstay : b = false ∨ m.to = z
  case pos =>
   have HE : Hid (pathTo h s.cues S k (n + 1) = pathTo h s.cues S k n) := lh (HSTAY.out hstay)
   by_cases hbf : b = false
   ·subst hbf
    go_wp2_with fail
    go_roundw
    case rel => exact ⟨n + 1, by go_num, by omega, HB1W.out, lh ⟨by rw [HE.out]; exact HP.out, by rw [HE.out, HOO.out]; exact HO4.out⟩⟩
    case measure => simp [intOf]; omega
   ·obtain rfl : b = true := by cases b <;> simp_all
    obtain hez : m.to = z := by simpa using hstay
    have hnb : (m.to == z) = true := by simpa using hez
    go_wp2_with fail
    go_roundw
    case rel => exact ⟨n + 1, by go_num, by omega, HB1W.out, lh ⟨by rw [HE.out]; exact HP.out, by rw [HE.out, HOO.out]; exact HO4.out⟩⟩
    case measure => simp [intOf]; omega
  obtain ⟨hbt, hne⟩ : b = true ∧ m.to ≠ z := ⟨by cases b <;> simp_all, fun e => hstay (.inr e)⟩;subst hbt;have hnb : (m.to == z) = false := by simpa using hne
  obtain ⟨-, -, to0, to1, HG0⟩ := way_ok (nme := nme) (m := m) (z := z) HOK.out hk hlt (by rw [HQ.out]; exact HBB.out) (by rw [HQ.out]; exact HM.out) HZ.out;obtain ⟨d, hd⟩ := nm ((if z ≤ m.to then m.to - z else z - m.to));rw [hd] at HG0;have HG := lh HG0;obtain ⟨Wc, hWc⟩ := nm (curveL d m.rise m.fall (topV d m));have HWC := lh hWc;obtain ⟨s0, hs0⟩ := nm (ig S n);have HS0 := lh hs0;have HGO : Hid (pathTo h s.cues S k (n + 1) = wayTo s0 z (decide (z < m.to)) O Wc Wc.length) := lh (by rw [← hs0, ← HOO.out]; exact pathTo_go HP.out (by rw [HQ.out, HNM.out]; exact HBB.out) (by rw [HQ.out, HNM.out]; exact HM.out) HZ.out hne hd hWc);rw [hs0] at HSC;have HMX : Hid (max (m.to - z) (z - m.to) = d) := lh (by rw [← hd]; split <;> omega);obtain ⟨up, hup⟩ := nm (decide (z < m.to));rw [hup] at HGO;have HUP := lh hup;have hmlt : Bm < W4.heap.size := wl m1;have HML4 := lh hmlt;clear hWc hs0 HG0 hd hup hmlt
  go_upto_region 13 with (go_at_call 80; rw [HMX.out]; (with_reducible refine (way_curve HG.out HWC.out _).mono ?_); rintro e w6 ⟨⟨cb, cc, rfl, hcb1, hcb2, hcc, HPC⟩, hb6⟩)
  have HCB1 := lh hcb1;have HCB2 := lh hcb2;have HW6 : Hid (Below W1.heap.size W1 w6) := lh (HB1W.out.trans (hb6.mono HB1W.out.size));have HM6 : Hid (w6.cell? ⟨Bm, 1, none⟩ = some (.int .i64 m.to) ∧ Bm < w6.heap.size ∧ Bm ≠ g0) := lh ⟨(hb6.cell (p := ⟨Bm, 1, none⟩) HML4.out).trans m1, Nat.lt_of_lt_of_le HML4.out hb6.size, by have := HG2.out; have := HBM.out; omega⟩;have HC6 : Hid (cb ≠ g0) := lh (by have := HG2.out; have := hB4.size; omega);have HOW : Hid (w6.ownsRow W1.heap.size 122 8 (.slice (some ⟨g0, 0, none⟩) O.length c0) O.length (pcflat O)) := lh (ownsRow_below HO4.out hb6);clear m0 m1 m2 m3 m4 hcb1 hcb2 hb6 HO4
  go_loopw [11, 90] (fun v jv wx => ∃ j g n' c : Nat, v = .slice (some ⟨g, 0, none⟩) n' c ∧ jv = .int .i64 j ∧ j ≤ Wc.length ∧ Hid (Kept w6 wx g0 (.slice (some ⟨g, 0, none⟩) n' c)) ∧ Hid (n' = (wayTo s0 z up O Wc j).1.length ∧ (wayTo s0 z up O Wc j).2 = 0 ∧ wx.ownsRow W1.heap.size 122 8 (.slice (some ⟨g, 0, none⟩) n' c) n' (pcflat (wayTo s0 z up O Wc j).1))) (fun _ jv _ => Wc.length - (intOf jv).toNat)
  case atStart => exact ⟨0, g0, O.length, c0, rfl, rfl, Nat.zero_le _, lh (Kept.start rfl), lh ⟨rfl, rfl, HOW.out⟩⟩
  case round =>
   clear HOW;obtain ⟨j, g, n', c, rfl, rfl, hj, HK, HW⟩ := hrel;obtain ⟨wj, rfl⟩ : ∃ wo : World, wo = wr := ⟨_, rfl⟩
   by_cases hlj : j < Wc.length
   case neg =>
    obtain rfl : j = Wc.length := by omega
    have HBX : Hid (Below W1.heap.size W1 wj) := lh (HK.out.under HW6.out HW6.out.size HG1.out)
    go_wp2_with fail
    go_roundw
    case rel => exact ⟨n + 1, by go_num, by omega, HBX.out, lh ⟨by rw [HGO.out]; exact HW.out.2.1, by obtain ⟨e, -, o⟩ := HW.out; rw [HGO.out, ← e]; exact o⟩⟩
    case measure => simp [intOf]; omega
   obtain ⟨hkg, hkl⟩ := HK.out;obtain ⟨c0, c1, c2, c3, c4, c5, c6, c7⟩ := HK.out.pcs HCB2.out HC6.out HPC.out hlj;obtain ⟨p, hp⟩ := nm (pcg Wc j);rw [hp] at c0 c1 c2 c3 c4 c5 c6 c7;have HPK : Hid (PcOK p) := lh (by rw [← hp]; exact way_piece HG.out HWC.out hlj);have HPJ := lh hp;have j0 : 0 ≤ (j : Int) := by omega
   have j1 : (j : Int) < (Wc.length : Int) := by omega
   have hwl : Wc.length ≤ 4 := by rw [← HWC.out]; exact curve_len4 _ _ _ _
   have jw : IntKind.i64.wrap ((j : Int) + 1) = (j : Int) + 1 := IntWalk.i64_in _ (by omega);have hbn := below_new wj (.cells #[.int .i64 p.f0, .int .i64 p.f1, .int .i64 p.a0, .int .i64 p.a1, .int .i64 p.b0, .int .i64 p.b1, .int .i64 p.c0, .int .i64 p.c1] 122);have hpn := PB.new wj p 122;clear hp hkg hkl
   go_upto_region 15 with (fail)
   clear c0 c1 c2 c3 c4 c5 c6 c7;obtain ⟨Bt, hBt⟩ := nm (wj.heap.size);obtain ⟨Wt, hWt⟩ := nm (wj.alloc (.cells #[.int .i64 p.f0, .int .i64 p.f1, .int .i64 p.a0, .int .i64 p.a1, .int .i64 p.b0, .int .i64 p.b1, .int .i64 p.c0, .int .i64 p.c1] 122));rw [hWt] at hbn hpn;simp only [hWt];rw [hBt] at hpn;simp only [hBt];have HKT : Hid (∀ w', Below Wt.heap.size Wt w' → Kept w6 w' g0 (.slice (some ⟨g, 0, none⟩) n' c)) := lh fun w' y => (HK.out.below hbn).below y;have HRT : Hid (Wt.ownsRow W1.heap.size 122 8 (.slice (some ⟨g, 0, none⟩) n' c) n' (pcflat (wayTo s0 z up O Wc j).1)) := lh (ownsRow_below HW.out.2.2 hbn);have HXT : Hid (∀ w', Below Wt.heap.size Wt w' → Below W1.heap.size W1 w') := lh fun w' y => (HKT.out w' y).under HW6.out HW6.out.size HG1.out;have HPT : Hid (∀ w', Below Wt.heap.size Wt w' → PB w' Bt p) := lh fun w' y => hpn.carry y;obtain ⟨Y, hY⟩ := nm (pieceP p s0 z up);have HY := lh hY
   have HTP : Hid (∀ w', Calls Tryz.prog 81 #[.agg #[.int .i64 p.f0, .int .i64 p.f1, .int .i64 p.a0, .int .i64 p.a1, .int .i64 p.b0, .int .i64 p.b1, .int .i64 p.c0, .int .i64 p.c1], .int .i64 s0, .int .i64 z, .bool up] w' fun e w2 => e = .returned (.tuple #[.agg #[.int .i64 Y.1.f0, .int .i64 Y.1.f1, .int .i64 Y.1.a0, .int .i64 Y.1.a1, .int .i64 Y.1.b0, .int .i64 Y.1.b1, .int .i64 Y.1.c0, .int .i64 Y.1.c1], .int .i64 Y.2]) ∧ Below w'.heap.size w' w2) := lh fun w' => by
    have := tpiece_any p s0 z up (by have := HB1.out n hlt; rw [HS0.out] at this; exact this.1) (by have := HB1.out n hlt; rw [HS0.out] at this; exact this.2) z0 z1 HPK.out.f HPK.out.a (vf_bd HPK.out.b) (vf_bd HPK.out.c) w'
    rwa [hY] at this
   clear hBt hWt hbn hpn hY HK
   go_cut [21, 22] (fun v21 v22 wx => ∃ (By : Nat) (w9 : World), w9 = wx ∧ v21 = .pointer (some ⟨By, 0, none⟩) ∧ v22 = .int .i64 Y.2 ∧ Below Wt.heap.size Wt wx ∧ Hid (PB wx By Y.1))
   case first =>
    have f0 : ∀ w', Below Wt.heap.size Wt w' → PB w' Bt p := HPT.out;have q0 : ∀ w', Below Wt.heap.size Wt w' → w'.cell? ⟨Bt, 0, none⟩ = some (.int .i64 p.f0) := fun w' y => (f0 w' y).c0;have q1 : ∀ w', Below Wt.heap.size Wt w' → w'.cell? ⟨Bt, 1, none⟩ = some (.int .i64 p.f1) := fun w' y => (f0 w' y).c1;have q2 : ∀ w', Below Wt.heap.size Wt w' → w'.cell? ⟨Bt, 2, none⟩ = some (.int .i64 p.a0) := fun w' y => (f0 w' y).c2;have q3 : ∀ w', Below Wt.heap.size Wt w' → w'.cell? ⟨Bt, 3, none⟩ = some (.int .i64 p.a1) := fun w' y => (f0 w' y).c3;have q4 : ∀ w', Below Wt.heap.size Wt w' → w'.cell? ⟨Bt, 4, none⟩ = some (.int .i64 p.b0) := fun w' y => (f0 w' y).c4;have q5 : ∀ w', Below Wt.heap.size Wt w' → w'.cell? ⟨Bt, 5, none⟩ = some (.int .i64 p.b1) := fun w' y => (f0 w' y).c5;have q6 : ∀ w', Below Wt.heap.size Wt w' → w'.cell? ⟨Bt, 6, none⟩ = some (.int .i64 p.c0) := fun w' y => (f0 w' y).c6;have q7 : ∀ w', Below Wt.heap.size Wt w' → w'.cell? ⟨Bt, 7, none⟩ = some (.int .i64 p.c1) := fun w' y => (f0 w' y).c7;have e1 : ∀ w', Below Wt.heap.size Wt w' → w'.cell? ⟨w.heap.size, 1, none⟩ = some (.slice (some ⟨sb, sf, none⟩) S.length sc) := fun w' y => (HX.out _ (HX1.out _ (HXT.out w' y))).1.2.1;have e2 : ∀ w', Below Wt.heap.size Wt w' → w'.cell? ⟨sb, sf + n, none⟩ = some (.int .i64 s0) := fun w' y => HSC.out _ (HX1.out _ (HXT.out w' y));have e3 : ∀ w', Below Wt.heap.size Wt w' → w'.cell? ⟨Bm, 1, none⟩ = some (.int .i64 m.to) := fun w' y => ((HKT.out w' y).cell (p := ⟨Bm, 1, none⟩) HM6.out.2.1 HM6.out.2.2).trans HM6.out.1;have sl : (n : Int) < (S.length : Int) := by rw [HSL.out]; exact i1
    have hup : decide (z < m.to) = up := HUP.out;clear f0;have hD : Below Wt.heap.size Wt Wt.drew := (br).drew;refine wp_region_held_drew (S := fun w' => Below Wt.heap.size Wt w') (by kernel_rfl) hD (fun hHeld => ?_);refine tk 0 ?_; refine tk 1 ?_; refine tk 2 ?_; refine tk 3 ?_; refine tk 4 ?_; refine tk 5 ?_; refine tk 6 ?_; refine tk 7 ?_; refine tk 8 ?_; refine tk 9 ?_; refine tk 10 ?_
    try simp only [hup]
    refine ry [11, 15] (rc 11 (HTP.out _) (fun _ hb => hHeld.trans (hb.mono hHeld.size)) (fun y1 hb2 hH1 => ?_) (al 15 (.cells #[.int .i64 0, .int .i64 0, .int .i64 0, .int .i64 0, .int .i64 0, .int .i64 0, .int .i64 0, .int .i64 0] 122) (hHeld.alloc hHeld.size _) (fun By y1 eB ey hH1 => ?_) nl))
    ·refine tk 12 ?_; refine tk 13 ?_; refine tk 14 ?_
     refine ry [15] (al 15 (.cells #[.int .i64 0, .int .i64 0, .int .i64 0, .int .i64 0, .int .i64 0, .int .i64 0, .int .i64 0, .int .i64 0] 122) (hH1.alloc hH1.size _) (fun By y2 eB ey hH2 => ?_) nl);have hz : PB y2 By ⟨0, 0, 0, 0, 0, 0, 0, 0⟩ := by rw [← ey, ← eB]; exact PB.new _ ⟨0, 0, 0, 0, 0, 0, 0, 0⟩ _
     have hlo : Wt.heap.size ≤ By := by rw [← eB]; exact hH1.size
     clear ey eB;have hmf := pb_from Y.1 hz;have hst : Below Wt.heap.size Wt (setFrom y2 By 0 [.int .i64 Y.1.f0, .int .i64 Y.1.f1, .int .i64 Y.1.a0, .int .i64 Y.1.a1, .int .i64 Y.1.b0, .int .i64 Y.1.b1, .int .i64 Y.1.c0, .int .i64 Y.1.c1]) := below_from _ y2 0 hH2 hlo;obtain ⟨g0, g1, g2, g3, g4, g5, g6, g7, hff⟩ := hz;refine ry [16] (vl 16 (w1 := setFrom y2 By 0 [.int .i64 Y.1.f0, .int .i64 Y.1.f1, .int .i64 Y.1.a0, .int .i64 Y.1.a1, .int .i64 Y.1.b0, .int .i64 Y.1.b1, .int .i64 Y.1.c0, .int .i64 Y.1.c1]) hst (fun hH3 => ?_) nl);refine tk 17 ?_; refine dn ?_
     go_wp2_with fail
     go_meet
     exact ⟨By, _, rfl, rfl, rfl, hst, lh hmf⟩
    ·have hz1 : PB y1 By ⟨0, 0, 0, 0, 0, 0, 0, 0⟩ := by rw [← ey, ← eB]; exact PB.new _ ⟨0, 0, 0, 0, 0, 0, 0, 0⟩ _
     have hlo : Wt.heap.size ≤ By := by rw [← eB]; exact hHeld.size
     clear ey eB;refine ry [11] (rc 11 (HTP.out _) (fun _ hb => hH1.trans (hb.mono hH1.size)) (fun y2 hb2 hH2 => ?_) nl);refine tk 12 ?_; refine tk 13 ?_; refine tk 14 ?_;have hz := hz1.carry hb2;have hmf := pb_from Y.1 hz;have hst : Below Wt.heap.size Wt (setFrom y2 By 0 [.int .i64 Y.1.f0, .int .i64 Y.1.f1, .int .i64 Y.1.a0, .int .i64 Y.1.a1, .int .i64 Y.1.b0, .int .i64 Y.1.b1, .int .i64 Y.1.c0, .int .i64 Y.1.c1]) := below_from _ y2 0 hH2 hlo;obtain ⟨g0, g1, g2, g3, g4, g5, g6, g7, hff⟩ := hz;refine ry [16] (vl 16 (w1 := setFrom y2 By 0 [.int .i64 Y.1.f0, .int .i64 Y.1.f1, .int .i64 Y.1.a0, .int .i64 Y.1.a1, .int .i64 Y.1.b0, .int .i64 Y.1.b1, .int .i64 Y.1.c0, .int .i64 Y.1.c1]) hst (fun hH3 => ?_) nl);refine tk 17 ?_; refine dn ?_
     go_wp2_with fail
     go_meet
     exact ⟨By, _, rfl, rfl, rfl, hst, lh hmf⟩
   case rest =>
   obtain ⟨By, w9, rfl, rfl, rfl, hB9, HPY⟩ := hcut;have HB9 : Hid (Below W1.heap.size W1 w9) := lh (HXT.out _ hB9);have HK9 := lh (HKT.out _ hB9);have HR9 : Hid (w9.ownsRow W1.heap.size 122 8 (.slice (some ⟨g, 0, none⟩) n' c) n' (pcflat (wayTo s0 z up O Wc j).1)) := lh (ownsRow_below HRT.out hB9);have HYE : Hid (pieceP (pcg Wc j) s0 z up = Y) := lh (by rw [HPJ.out]; exact HY.out)
   by_cases he : Y.2 = 0
   case neg =>
    have hF : wayTo s0 z up O Wc (j + 1) = ([], Y.2) := by rw [wayTo_fail HW.out.2.1 (by rw [HYE.out]; exact he), HYE.out]
    have hF2 : pathTo h s.cues S k (n + 1) = ([], Y.2) := by rw [HGO.out, wayTo_err (k := j + 1) (by rw [hF]; exact he) _ hlj, hF]
    have HE : Hid (pathP h s.cues S k = ([], Y.2)) := lh (by rw [pathP_err (n := n + 1) hlt (by rw [hF2]; exact he), hF2]);have hwb := (HX.out _ (HX1.out _ HB9.out)).2.2.2.2;have hye : (Y.2 == 0) = false := by simpa using he
    clear hF hF2
    go_wp2_with fail
    go_ret2
    exact ⟨lh ⟨_, by first | rfl | (rw [HE.out]; rfl) | rw [HE.out], by rw [HE.out]; exact ⟨fun e => absurd e he, fun _ => rfl⟩⟩, hwb⟩
   have hye : (Y.2 == 0) = true := by simpa using he
   obtain ⟨Oj, hOj⟩ := nm ((wayTo s0 z up O Wc j).1);have hlen := wayTo_len s0 z up O Wc j HW.out.2.1;have hol : O.length ≤ 300 := by rw [← HOO.out]; have := (pathTo_len h s.cues S k n HP.out).2; omega
   have hop : 1 ≤ O.length := by rw [← HOO.out]; exact (pathTo_len h s.cues S k n HP.out).1
   have hnl := HW.out.1;have HN : Hid (wayTo s0 z up O Wc (j + 1) = (putP Oj Y.1, 0)) := lh (by rw [wayTo_next HW.out.2.1 (by rw [HYE.out]; exact he), HYE.out, hOj]);rw [hOj] at hlen hnl HR9;obtain ⟨n1, hn'⟩ : ∃ n1, n' = n1 + 1 := ⟨n' - 1, by omega⟩;have HNN := lh hn';have HNJ : Hid (Oj.length = n') := lh hnl.symm;have HNL : Hid (Oj.length = n1 + 1) := lh (by omega);have hn1 : n1 ≤ 400 := by omega
   obtain ⟨y0, y1, y2, y3, y4, y5, y6, y7, yf⟩ := HPY.out
   have hpr : Pcs w9.heap.size w9 (some ⟨g, 0, none⟩) Oj := by
    have := HR9.out;rw [hnl] at this;obtain ⟨a, c', e, -, -, -, hh⟩ := pc_of_row this
    cases e
    exact hh
   obtain ⟨b', o', e', -, hcc'⟩ := hpr (by omega)
   cases e'
   obtain ⟨l0, l1, l2, l3, l4, l5, l6, l7⟩ := hcc' n1 (by omega);simp only [Nat.zero_add] at l0 l1 l2 l3 l4 l5 l6 l7;have HLS : Hid (w9.cell? ⟨g, n1 * 8 + 2, none⟩ = some (.int .i64 (pcg Oj n1).a0) ∧ w9.cell? ⟨g, n1 * 8 + 3, none⟩ = some (.int .i64 (pcg Oj n1).a1) ∧ w9.cell? ⟨g, n1 * 8 + 4, none⟩ = some (.int .i64 (pcg Oj n1).b0) ∧ w9.cell? ⟨g, n1 * 8 + 5, none⟩ = some (.int .i64 (pcg Oj n1).b1) ∧ w9.cell? ⟨g, n1 * 8 + 6, none⟩ = some (.int .i64 (pcg Oj n1).c0) ∧ w9.cell? ⟨g, n1 * 8 + 7, none⟩ = some (.int .i64 (pcg Oj n1).c1)) := lh ⟨l2, l3, l4, l5, l6, l7⟩;have HGL : Hid (g < w9.heap.size) := lh (wl l0);have n10 : 0 ≤ (n1 : Int) := by omega
   have n1w : IntKind.i64.wrap ((n' : Int) - 1) = (n1 : Int) := by rw [show (n' : Int) - 1 = (n1 : Int) by omega]; exact IntWalk.i64_in _ (by omega)
   have n1t : (n1 : Int) < (n' : Int) := by omega
   clear l2 l3 l4 l5 l6 l7 hOj hlen hol hop hnl hpr hcc' HW HPT HXT HRT HKT hn' y0 y1 y2 y3 y4 y5 y6 y7 yf
   go_upto_region 18 with (fail)
   have l0' : ∀ w', Below w9.heap.size w9 w' → w'.cell? ⟨g, n1 * 8, none⟩ = some (.int .i64 (pcg Oj n1).f0) := fun w' y => (y.cell (p := ⟨g, _, none⟩) HGL.out).trans l0;have l1' : ∀ w', Below w9.heap.size w9 w' → w'.cell? ⟨g, n1 * 8 + 1, none⟩ = some (.int .i64 (pcg Oj n1).f1) := fun w' y => (y.cell (p := ⟨g, _, none⟩) HGL.out).trans l1;have m0' : ∀ w', Below w9.heap.size w9 w' → w'.cell? ⟨By, 0, none⟩ = some (.int .i64 Y.1.f0) := fun w' y => (HPY.out.carry y).c0;have m1' : ∀ w', Below w9.heap.size w9 w' → w'.cell? ⟨By, 1, none⟩ = some (.int .i64 Y.1.f1) := fun w' y => (HPY.out.carry y).c1;have hD : Below w9.heap.size w9 w9.drew := (br).drew;refine wp_region_held_drew (S := fun w' => Below w9.heap.size w9 w') (by kernel_rfl) hD (fun hHeld => ?_);refine tk 0 ?_; refine tk 1 ?_; refine tk 2 ?_; refine tk 3 ?_; refine tk 4 ?_; refine tk 5 ?_; refine tk 6 ?_; refine tk 7 ?_; refine tk 8 ?_;obtain ⟨r, hr⟩ := nm (((pcg Oj n1).f0 == Y.1.f0 && (pcg Oj n1).f1 == Y.1.f1));refine ry [9] (vl 9 (n := .value (.bool r)) (v := .bool r) (w1 := w9.drew) hHeld (fun _ => ?_) nl (hx := (exec_eql _ _ _ _ _ _ _ _ _ rfl rfl rfl _).trans (by rw [hr])));refine dn ?_;have HRR := lh hr;obtain ⟨w10, hw10⟩ := nm (w9.drew);rw [hw10] at hHeld;simp only [hw10];have HK10 := lh (HK9.out.below hHeld);have HR10 := lh (ownsRow_below HR9.out hHeld);have HP10 := lh (HPY.out.carry hHeld);have HF10 := lh (own_free HR10.out)
   have HS10 : Hid (w10.cell? ⟨g, n1 * 8, none⟩ = some (.int .i64 (pcg Oj n1).f0) ∧ w10.cell? ⟨g, n1 * 8 + 1, none⟩ = some (.int .i64 (pcg Oj n1).f1) ∧ w10.cell? ⟨g, n1 * 8 + 2, none⟩ = some (.int .i64 (pcg Oj n1).a0) ∧ w10.cell? ⟨g, n1 * 8 + 3, none⟩ = some (.int .i64 (pcg Oj n1).a1) ∧ w10.cell? ⟨g, n1 * 8 + 4, none⟩ = some (.int .i64 (pcg Oj n1).b0) ∧ w10.cell? ⟨g, n1 * 8 + 5, none⟩ = some (.int .i64 (pcg Oj n1).b1) ∧ w10.cell? ⟨g, n1 * 8 + 6, none⟩ = some (.int .i64 (pcg Oj n1).c0) ∧ w10.cell? ⟨g, n1 * 8 + 7, none⟩ = some (.int .i64 (pcg Oj n1).c1)) := lh (by
    obtain ⟨x2, x3, x4, x5, x6, x7⟩ := HLS.out;exact ⟨l0' _ hHeld, l1' _ hHeld, (hHeld.cell (p := ⟨g, _, none⟩) HGL.out).trans x2, (hHeld.cell (p := ⟨g, _, none⟩) HGL.out).trans x3, (hHeld.cell (p := ⟨g, _, none⟩) HGL.out).trans x4, (hHeld.cell (p := ⟨g, _, none⟩) HGL.out).trans x5, (hHeld.cell (p := ⟨g, _, none⟩) HGL.out).trans x6, (hHeld.cell (p := ⟨g, _, none⟩) HGL.out).trans x7⟩)
   have HB10 : Hid (Below W1.heap.size W1 w10) := lh (HB9.out.trans (hHeld.mono HB9.out.size));clear hr hw10 hHeld hD l0 l1 l0' l1' m0' m1' hB9;obtain ⟨y0, y1, y2, y3, y4, y5, y6, y7, yf⟩ := HP10.out
   cases r
   case true =>
    have he2 : (pcg Oj n1).f0 = Y.1.f0 ∧ (pcg Oj n1).f1 = Y.1.f1 := by simpa using HRR.out
    have HN2 : Hid (wayTo s0 z up O Wc (j + 1) = (Oj.set n1 Y.1, 0)) := lh (by rw [HN.out, putP_set HNL.out he2]);obtain ⟨l0, l1, l2, l3, l4, l5, l6, l7⟩ := HS10.out;have lf := HF10.out;clear he2
    go_wp2_with fail
    go_roundw
    case rel => exact ⟨j + 1, g, n', c, rfl, by go_num, by omega, lh (HK10.out.step (w' := setFrom w10 g (n1 * 8) [.int .i64 Y.1.f0, .int .i64 Y.1.f1, .int .i64 Y.1.a0, .int .i64 Y.1.a1, .int .i64 Y.1.b0, .int .i64 Y.1.b1, .int .i64 Y.1.c0, .int .i64 Y.1.c1]) (grown_set _ _ _ (World.grownBy.refl _ _)) (.inl rfl)), lh ⟨by rw [HN2.out, List.length_set, HNJ.out], by rw [HN2.out], by rw [HN2.out]; exact own_put HR10.out Y.1 (by have := HNL.out; omega)⟩⟩
    case measure => simp [intOf]; omega
   case false =>
    have he2 : ¬ ((pcg Oj n1).f0 = Y.1.f0 ∧ (pcg Oj n1).f1 = Y.1.f1) := by have := HRR.out; simpa using this
    have HN2 : Hid (wayTo s0 z up O Wc (j + 1) = (Oj ++ [Y.1], 0)) := lh (by rw [HN.out, putP_app HNL.out he2]);have HOJ : Hid (w10.ownsRow W1.heap.size 122 8 (.slice (some ⟨g, 0, none⟩) n' c) Oj.length (pcflat Oj)) := lh (by rw [HNJ.out]; exact HR10.out);have hsz := HB10.out.size;clear he2
    go_wp2_with (at_builtin; refine pcb_append rfl _ _ rfl W1.heap.size _ Oj rfl (HOJ.out.alloc _) _ Y.1 rfl (PB.new _ _ _) (by have := HNL.out; omega) (by simp; omega) ?_; intro v2 w8 hown8 hg8 hat8; have HO8 := lh hown8; have HK8 := lh ((HK10.out.below (below_new w10 _)).step hg8 hat8); clear hown8 hg8 hat8)
    obtain ⟨a8, c8, rfl, -, -, -, -⟩ := pc_of_row HO8.out;obtain ⟨g8, rfl, -, -⟩ := row_addr HO8.out (by simp);go_roundw
    case rel => exact ⟨j + 1, g8, (Oj ++ [Y.1]).length, c8, rfl, by go_num, by omega, HK8, lh ⟨by rw [HN2.out], by rw [HN2.out], by rw [HN2.out]; exact HO8.out⟩⟩
    case measure => simp [intOf]; omega
theorem ent_tpath (args : Array Value) (w : World) : (callFunc 46 args).run Tryz.prog w = .ok (.enter 46 args) w := enters_of Tryz.func46 (by kernel_rfl) rfl args w
theorem asks_tpath {w : World} {b : Nat} {s : ByteArray} (h : w.cell? ⟨b, 0, none⟩ = some (.string s)) : AsksSet 46 #[.pointer (some ⟨b, 0, none⟩)] w.heap.size w (fun y => decide (y.name = s)) := by
 intro W x hb;have hlt := wl h;have h' := (hb.cell (p := ⟨b, 0, none⟩) hlt).trans h;have hlt' : b < W.heap.size := wl h';show Calls _ _ #[.agg #[.string x.name, .int .i64 x.depth, .int .i64 x.low, .int .i64 x.high, .int .i64 x.length, .slice x.la x.lines.length x.lc, .int .i64 x.pipe, .int .i64 x.arbor, .int .i64 x.purchase, .int .i64 x.most, .int .i64 x.brake, .slice x.ia x.items.length x.ic, .slice x.ba x.bricks.length x.bc], .pointer (some ⟨b, 0, none⟩)] _ _;clear h hb hlt
 go_enter Tryz.func46, Tryz.ntmps46
 go_wp2_with fail
 go_ret;exact ⟨ret_bool (str_eq _ _), below_new _ _⟩
noncomputable def pathE (h : HouseR) (s : SheetR) (G : List Int) (nme : ByteArray) : List Pc × Int :=
 if planE h s G = 0 then (if findS h.sets nme < 0 then ([], 9) else if ordrB s.cues (planS h s G) (planN h s) = true then pathP h s.cues (planS h s G) (findS h.sets nme).toNat else ([], 13)) else ([], planE h s G)
theorem boxHSN {w : World} {h : HouseR} {s : SheetR} {ga : Option Addr} {G : List Int} (nme : ByteArray) (hh : HouseIn w h) (hs : SheetIn w s) (hG : Nums w.heap.size w ga G) :
  ∃ W0, ((LTw w h s).alloc (.cells #[.string nme] 9)) = W0 ∧ Hid (∀ w', Below W0.heap.size W0 w' → HouseAt w' w.heap.size h ∧ SheetAt w' (w.heap.size + 1) s ∧ w'.cell? ⟨w.heap.size + 1 + 1, 0, none⟩ = some (.string nme) ∧ HouseIn w' h ∧ SheetIn w' s ∧ Nums w'.heap.size w' ga G ∧ Below w.heap.size w w') := by
 have hb : Below w.heap.size w ((LTw w h s).alloc (.cells #[.string nme] 9)) := ((below_new w _).alloc (by simp) _).alloc (by simp; omega) _;have hH := ((HouseAt.new w h 25).carry (below_new _ (LSh s))).carry (below_new _ (.cells #[.string nme] 9));have hS' := (sheetAt_new (w.alloc (LHo h)) s).carry (below_new _ (.cells #[.string nme] 9));rw [show (w.alloc (LHo h)).heap.size = w.heap.size + 1 by simp] at hS';have hN0 : ∀ V : World, (V.alloc (.cells #[.string nme] 9)).cell? ⟨V.heap.size, 0, none⟩ = some (.string nme) := fun V => by simp
 have hN := hN0 (LTw w h s);rw [show (LTw w h s).heap.size = w.heap.size + 1 + 1 by simp] at hN;clear hN0;refine ⟨_, rfl, lh fun w' z => ⟨hH.carry z, hS'.carry z, (z.cell (p := ⟨w.heap.size + 1 + 1, 0, none⟩) (wl hN)).trans hN, (hh.grow hb).grow z, (hs.grow hb).grow z, (hG.grow hb).grow z, hb.trans (z.mono hb.size)⟩⟩
theorem tPath_any (h : HouseR) (s : SheetR) (ga : Option Addr) (G : List Int) (gc : Nat) (nme : ByteArray) (w : World) (hh : HouseIn w h) (hs : SheetIn w s) (hG : Nums w.heap.size w ga G) (hgl : G.length ≤ 1000) :
  Calls Tryz.prog 12 #[.agg #[.string h.name, .int .i64 h.height, .slice h.sa h.sets.length h.sc, .slice h.ra h.roofs.length h.rc], .agg #[.slice s.ca s.cues.length s.cc, .slice s.pa s.pairs.length s.pc], .slice ga G.length gc, .string nme] w fun e w' => Hid (∃ v, e = .returned (.tuple #[v, .int .i64 (pathE h s G nme).2]) ∧ PathV w w' v (pathE h s G nme)) ∧ Below w.heap.size w w' := by
 have hsl := hh.slen;have hcap := hh.scap;obtain ⟨W0, hW0, HX⟩ := boxHSN nme hh hs hG;clear hh hs hG;obtain ⟨E, hE⟩ := nm (planE h s G)
 by_cases hz : E = 0
 case neg =>
  have HE := lh hE;have HR : Hid (pathE h s G nme = ([], E)) := lh (by unfold pathE; rw [hE, if_neg hz]);have HZ := lh hz;have g0 : (E != 0) = true := bne_iff_ne.2 hz;clear hz hE;have HMD := lh (made_any h s ga G gc _ (HX.out _ br).2.2.2.1 (HX.out _ br).2.2.2.2.1 (HX.out _ br).2.2.2.2.2.1 hgl)
  go_enter Tryz.func12, Tryz.ntmps12
  go_upto_region 1 with (fail)
  try simp only [hW0]
  clear hW0;obtain ⟨⟨a0, a1, a2, a3⟩, ⟨s0, s1⟩, n0, -, -, -, -⟩ := HX.out _ br
  go_wp2_with (go_at_call 44; (with_reducible refine HMD.out.mono ?_); rintro e w1 ⟨hx1, hb1⟩; obtain ⟨ta, tn, tc, sa, sn, sc, na, nn, nc, rfl, hp1⟩ := hx1.out; clear hx1 hp1; rw [HE.out])
  go_ret2
  exact ⟨lh ⟨_, by first | rfl | (rw [HR.out]; rfl) | rw [HR.out], by rw [HR.out]; exact ⟨fun e => absurd e HZ.out, fun _ => rfl⟩⟩, (HX.out _ hb1).2.2.2.2.2.2.alloc (by have := (HX.out _ hb1).2.2.2.2.2.2.size; omega) _⟩
 case pos =>
  subst hz;obtain ⟨hok, hpo⟩ := plan_sheet hE;have HOK := lh hok;have HPO := lh hpo;have HE := lh hE;have HMD := lh (made_more h s ga G gc _ (HX.out _ br).2.2.2.1 (HX.out _ br).2.2.2.2.1 (HX.out _ br).2.2.2.2.2.1 hgl hE);clear hok hpo hE
  go_enter Tryz.func12, Tryz.ntmps12
  go_upto_region 1 with (fail)
  try simp only [hW0]
  clear hW0;obtain ⟨⟨a0, a1, a2, a3⟩, ⟨s0, s1⟩, n0, -, -, -, -⟩ := HX.out _ br
  go_upto_region 4 with (go_at_call 44; (with_reducible refine HMD.out.mono ?_); rintro e w1 ⟨hx1, hb1⟩; obtain ⟨ta, tc, sa, sc, na, nc, rfl, hp1⟩ := hx1.out; have HP1 := lh hp1; clear hx1 hp1)
  obtain ⟨hS1, hN1, hT1⟩ := HP1.out;have hbx := below_new w1 (.cells #[.slice ta (s.cues.length + 1) tc, .slice sa s.cues.length sc, .slice na s.cues.length nc] 109);have hPC := PC.put w1 (.slice ta (s.cues.length + 1) tc) (.slice sa s.cues.length sc) (.slice na s.cues.length nc) 109;have hsz := hb1.size;have HB2 : Hid (Below W0.heap.size W0 (w1.alloc (.cells #[.slice ta (s.cues.length + 1) tc, .slice sa s.cues.length sc, .slice na s.cues.length nc] 109))) := lh (hb1.alloc hsz _);obtain ⟨B8, hB8⟩ := nm (w1.heap.size);have HPS : Hid (Nums (w1.alloc (.cells #[.slice ta (s.cues.length + 1) tc, .slice sa s.cues.length sc, .slice na s.cues.length nc] 109)).heap.size (w1.alloc (.cells #[.slice ta (s.cues.length + 1) tc, .slice sa s.cues.length sc, .slice na s.cues.length nc] 109)) sa (planS h s G) ∧ Nums (w1.alloc (.cells #[.slice ta (s.cues.length + 1) tc, .slice sa s.cues.length sc, .slice na s.cues.length nc] 109)).heap.size (w1.alloc (.cells #[.slice ta (s.cues.length + 1) tc, .slice sa s.cues.length sc, .slice na s.cues.length nc] 109)) na (planN h s) ∧ (0 < h.sets.length → ∃ P, TrimsIn (w1.alloc (.cells #[.slice ta (s.cues.length + 1) tc, .slice sa s.cues.length sc, .slice na s.cues.length nc] 109)) ta h s.cues P)) := lh ⟨hS1.grow hbx, hN1.grow hbx, fun q => by obtain ⟨P, t⟩ := hT1 q; exact ⟨P, t.grow hbx⟩⟩;have HPC := lh hPC;clear hS1 hN1 hT1 hbx hPC HP1 HMD hsz hb1 a0 a1 a2 a3 s0 s1 n0;obtain ⟨W2, hW2⟩ := nm (w1.alloc (.cells #[.slice ta (s.cues.length + 1) tc, .slice sa s.cues.length sc, .slice na s.cues.length nc] 109));rw [hW2] at HB2 HPS HPC;simp only [hW2];rw [hB8] at HPC;simp only [hB8];clear hW2 hB8;obtain ⟨⟨a0, a1, a2, a3⟩, ⟨s0, s1⟩, n0, hin, -, -, -⟩ := HX.out _ HB2.out;have HIF := lh (set_indexFunc h.sa h.sets h.sc _ _ _ (fun y => decide (y.name = nme)) W2 ent_tpath (by omega) (Nat.le_refl _) hin.sets (asks_tpath n0));obtain ⟨f, hf⟩ := nm (findS h.sets nme);rw [show set_first h.sets (fun y => decide (y.name = nme)) = f from hf] at HIF;have HF := lh hf;clear hf hin
  by_cases hn : f < 0
  ·have HR : Hid (pathE h s G nme = ([], 9)) := lh (by unfold pathE; rw [HE.out, if_pos rfl, HF.out, if_pos hn])
   go_wp2_with (go_at_call 45; (with_reducible refine HIF.out.mono ?_); rintro e w3 ⟨rfl, hb3⟩)
   go_ret2
   exact ⟨lh ⟨_, by first | rfl | (rw [HR.out]; rfl) | rw [HR.out], by rw [HR.out]; exact ⟨fun e => absurd e (by decide), fun _ => rfl⟩⟩, (HX.out _ (HB2.out.trans (hb3.mono HB2.out.size))).2.2.2.2.2.2⟩
  ·go_upto_region 7 with (go_at_call 45; (with_reducible refine HIF.out.mono ?_); rintro e w3 ⟨rfl, hb3⟩)
   have HB3 : Hid (Below W0.heap.size W0 w3) := lh (HB2.out.trans (hb3.mono HB2.out.size));have HP3 := lh (HPC.out.carry hb3);have HS3 : Hid (Nums w3.heap.size w3 sa (planS h s G) ∧ Nums w3.heap.size w3 na (planN h s) ∧ (0 < h.sets.length → ∃ P, TrimsIn w3 ta h s.cues P)) := lh ⟨HPS.out.1.grow hb3, HPS.out.2.1.grow hb3, fun q => by obtain ⟨P, t⟩ := HPS.out.2.2 q; exact ⟨P, t.grow hb3⟩⟩;clear hb3 a0 a1 a2 a3 s0 s1 n0 HIF;obtain ⟨⟨a0, a1, a2, a3⟩, ⟨s0, s1⟩, n0, hin, hsi, -, -⟩ := HX.out _ HB3.out;obtain ⟨p0, p1, p2, -, -, -, -⟩ := HP3.out;have HTO := lh (tordered_any s ta (s.cues.length + 1) tc sa na (planS h s G) (planN h s) sc nc w3 hsi HS3.out.1 HS3.out.2.1 HPO.out.lenS HPO.out.lenN (fun i hi => by have := HPO.out.starts i hi; omega) (fun i hi => by have := HPO.out.lens i hi; omega));rw [HPO.out.lenS, HPO.out.lenN] at HTO;obtain ⟨o, ho⟩ := nm (ordrB s.cues (planS h s G) (planN h s));rw [ho] at HTO;have HO := lh ho;have HN := lh hn;clear hin hsi ho hn
   cases o
   case false =>
    have HR : Hid (pathE h s G nme = ([], 13)) := lh (by unfold pathE; rw [HE.out, if_pos rfl, HF.out, if_neg (by have := HN.out; omega), HO.out]; rfl)
    go_wp2_with (go_at_call 47; (with_reducible refine HTO.out.mono ?_); rintro e w4 ⟨rfl, hb4⟩)
    go_ret2
    exact ⟨lh ⟨_, by first | rfl | (rw [HR.out]; rfl) | rw [HR.out], by rw [HR.out]; exact ⟨fun e => absurd e (by decide), fun _ => rfl⟩⟩, (HX.out _ (HB3.out.trans (hb4.mono HB3.out.size))).2.2.2.2.2.2⟩
   case true =>
    have hk := find_name (h := h) (s := nme) (by rw [HF.out]; have := HN.out; omega);rw [HF.out] at hk;obtain ⟨k, rfl⟩ : ∃ k : Nat, f = k := ⟨f.toNat, by have := HN.out; omega⟩;have HKK : Hid (k < h.sets.length) := lh (by simpa using hk.1);have HR : Hid (pathE h s G nme = pathP h s.cues (planS h s G) k) := lh (by unfold pathE; rw [HE.out, if_pos rfl, HF.out, if_neg (by have := HN.out; omega), if_pos HO.out]; rfl);clear hk
    go_upto_region 9 with (go_at_call 47; (with_reducible refine HTO.out.mono ?_); rintro e w4 ⟨rfl, hb4⟩)
    have HB4 : Hid (Below W0.heap.size W0 w4) := lh (HB3.out.trans (hb4.mono HB3.out.size));obtain ⟨P, ht⟩ := HS3.out.2.2 (by have := HKK.out; omega);have HTP := lh (tpath_any h s ta P tc sa na (planS h s G) (planN h s) sc nc k w4 ⟨(HX.out _ HB4.out).2.2.2.1, (HX.out _ HB4.out).2.2.2.2.1, ht.grow hb4, HS3.out.1.grow hb4⟩ HPO.out.lenS HOK.out HKK.out (fun i hi => by have := HPO.out.starts i hi; omega));have HP4 := lh (HP3.out.carry hb4);rw [HPO.out.lenS, HPO.out.lenN, ht.rows.len] at HTP;clear ht hb4 a0 a1 a2 a3 s0 s1 n0 p0 p1 p2 HTO;obtain ⟨⟨a0, a1, a2, a3⟩, ⟨s0, s1⟩, n0, -, -, -, -⟩ := HX.out _ HB4.out;obtain ⟨p0, p1, p2, -, -, -, -⟩ := HP4.out
    go_wp2_with (go_at_call 48; (with_reducible refine HTP.out.mono ?_); rintro e w5 ⟨hx5, hb5⟩; obtain ⟨v5, rfl, hv5⟩ := hx5.out; have HV5 := lh hv5; clear hx5 hv5)
    go_ret2
    have hw4 := (HX.out _ HB4.out).2.2.2.2.2.2;exact ⟨lh ⟨_, by first | rfl | (rw [HR.out]; rfl) | rw [HR.out], by rw [HR.out]; exact ⟨fun e => ownsRow_base (HV5.out.1 e) hw4.size, fun e => HV5.out.2 e⟩⟩, (HX.out _ (HB4.out.trans (hb5.mono HB4.out.size))).2.2.2.2.2.2⟩
end
end Go.Proofs.YtebofaenlhhkaaaGreat
