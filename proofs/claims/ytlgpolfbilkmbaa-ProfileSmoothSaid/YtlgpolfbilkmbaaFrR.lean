/-
  PLAIN: fractions as rational numbers; curves of quadratic pieces over the rational numbers: where they rise, and where they are smooth.
-/
import Derived.Test.YtlgpolfbilkmbaaQuadP
namespace Go.Proofs.Ytlgpolfbilkmbaa

/-- The number that a fraction stands for. -/
def fr (a : Int × Int) : Rat := (a.1 : Rat) / (a.2 : Rat)
theorem cast_pos {d : Int} (h : 0 < d) : (0 : Rat) < (d : Rat) := Rat.intCast_pos.2 h
theorem cast_ne {d : Int} (h : 0 < d) : (d : Rat) ≠ 0 := fun e => by have := cast_pos h; rw [e] at this; exact Rat.lt_irrefl this
theorem frq_mul (a : Int × Int) (h : 0 < a.2) : fr a * (a.2 : Rat) = (a.1 : Rat) := Rat.div_mul_cancel (cast_ne h)
theorem frq_one (n : Int) : fr (n, 1) = (n : Rat) := by
  show (n : Rat) / (1 : Rat) = (n : Rat)
  grind
theorem frq_zero : fr (0, 1) = 0 := frq_one 0
theorem frq_le {a b : Int × Int} (ha : 0 < a.2) (hb : 0 < b.2) : fr a ≤ fr b ↔ a.1 * b.2 ≤ b.1 * a.2 := by
  have h := frq_mul a ha
  have k := frq_mul b hb
  have pa := cast_pos ha
  have pb := cast_pos hb
  rw [← Rat.intCast_le_intCast, Rat.intCast_mul, Rat.intCast_mul, ← h, ← k]
  have pp := Rat.mul_pos pa pb
  rw [show fr a * (a.2 : Rat) * (b.2 : Rat) = fr a * ((a.2 : Rat) * (b.2 : Rat)) by grind, show fr b * (b.2 : Rat) * (a.2 : Rat) = fr b * ((a.2 : Rat) * (b.2 : Rat)) by grind]
  exact ⟨fun x => Rat.mul_le_mul_of_nonneg_right x (Rat.le_of_lt pp), fun x => Rat.le_of_mul_le_mul_right x pp⟩
theorem frq_lt {a b : Int × Int} (ha : 0 < a.2) (hb : 0 < b.2) : fr a < fr b ↔ a.1 * b.2 < b.1 * a.2 := by
  rw [← Rat.not_le, frq_le hb ha]; omega
theorem frq_eq {a b : Int × Int} (ha : 0 < a.2) (hb : 0 < b.2) : fr a = fr b ↔ a.1 * b.2 = b.1 * a.2 := by
  constructor
  · intro h
    have x := (frq_le ha hb).1 (by rw [h]; exact Rat.le_refl)
    have y := (frq_le hb ha).1 (by rw [h]; exact Rat.le_refl)
    omega
  · intro h
    exact Rat.le_antisymm ((frq_le ha hb).2 (by omega)) ((frq_le hb ha).2 (by omega))
theorem frq_low (n d : Int) (hd : 0 < d) : fr (lowN n d, lowD n d) = (n : Rat) / (d : Rat) :=
  (frq_eq (a := (lowN n d, lowD n d)) (b := (n, d)) (lowD_pos hd) hd).2 (low_cross n d)
theorem frq_inj {a b : Int × Int} (va : vF a = true) (vb : vF b = true) (h : fr a = fr b) : a = b := by
  obtain ⟨a1, _, _, _, a5⟩ := (validF_iff _ _).1 va
  obtain ⟨b1, _, _, _, b5⟩ := (validF_iff _ _).1 vb
  have := low_unique (by omega) (by omega) a5 b5 ((frq_eq (a := a) (b := b) (by omega) (by omega)).1 h)
  exact Prod.ext this.1 this.2
theorem div_add (a b c d : Rat) (hb : b ≠ 0) (hd : d ≠ 0) : a / b + c / d = (a * d + c * b) / (b * d) := by grind
theorem frq_add {a b : Int × Int} (ha : 0 < a.2) (hb : 0 < b.2) : fr (lowN (a.1 * b.2 + b.1 * a.2) (a.2 * b.2), lowD (a.1 * b.2 + b.1 * a.2) (a.2 * b.2)) = fr a + fr b := by
  rw [frq_low _ _ (Int.mul_pos ha hb)]
  unfold fr
  rw [div_add _ _ _ _ (cast_ne ha) (cast_ne hb)]
  simp
theorem frq_neg (a : Int × Int) : fr (-a.1, a.2) = -fr a := by unfold fr; simp [Rat.div_def, Rat.neg_mul]
theorem frq_times {a b : Int × Int} (ha : 0 < a.2) (hb : 0 < b.2) : fr (lowN (a.1 * b.1) (a.2 * b.2), lowD (a.1 * b.1) (a.2 * b.2)) = fr a * fr b := by
  rw [frq_low _ _ (Int.mul_pos ha hb)]
  unfold fr
  have := cast_ne ha
  have := cast_ne hb
  simp
  grind
theorem kp_ok {e p q : Int} (h : (kp e (fitP p q)).2 = 0) : e = 0 ∧ (kp e (fitP p q)).1 = (p, q) := by
  unfold kp at *
  by_cases z : (fitP p q).2.2 = 0
  · rw [if_pos z] at h ⊢
    refine ⟨h, ?_⟩
    unfold fitP at *
    split at z
    · cases z
    next hn => rw [if_neg hn]
  · rw [if_neg z] at h
    simp only at h
    split at h
    · exact absurd h z
    next hn => exact absurd h hn
theorem kAdd_ok {e : Int} {a b : Int × Int} (ha : 0 < a.2) (hb : 0 < b.2) (h : (kAdd e a b).2 = 0) : e = 0 ∧ fr (kAdd e a b).1 = fr a + fr b := by
  obtain ⟨h1, h2⟩ := kp_ok (h : (kp e (fitP _ _)).2 = 0)
  exact ⟨h1, by rw [← frq_add ha hb]; exact congrArg fr h2⟩
theorem kSub_ok {e : Int} {a b : Int × Int} (ha : 0 < a.2) (hb : 0 < b.2) (h : (kSub e a b).2 = 0) : e = 0 ∧ fr (kSub e a b).1 = fr a - fr b := by
  obtain ⟨h1, h2⟩ := kAdd_ok (e := e) (a := a) (b := (-b.1, b.2)) ha hb h
  exact ⟨h1, by rw [frq_neg] at h2; rw [Rat.sub_eq_add_neg, ← h2]; rfl⟩
theorem kMul_ok {e : Int} {a b : Int × Int} (ha : 0 < a.2) (hb : 0 < b.2) (h : (kMul e a b).2 = 0) : e = 0 ∧ fr (kMul e a b).1 = fr a * fr b := by
  obtain ⟨h1, h2⟩ := kp_ok (h : (kp e (fitP _ _)).2 = 0)
  exact ⟨h1, by rw [← frq_times ha hb]; exact congrArg fr h2⟩
theorem kVal_ok {e : Int} {A B C u : Int × Int} (vA : vF A = true) (vB : vF B = true) (vC : vF C = true) (vu : vF u = true) (h : (kVal e A B C u).2 = 0) : e = 0 ∧ fr (kVal e A B C u).1 = fr A + (fr B + fr C * fr u) * fr u := by
  unfold kVal at h ⊢
  have v1 : vF (kMul e C u).1 = true := kMul_valid vC vu
  have v2 : vF (kAdd (kMul e C u).2 B (kMul e C u).1).1 = true := kAdd_valid vB v1
  obtain ⟨h3, e4⟩ := kAdd_ok (den_pos vA) (den_pos (kMul_valid v2 vu)) h
  obtain ⟨h2, e3⟩ := kMul_ok (den_pos v2) (den_pos vu) h3
  obtain ⟨h1, e2⟩ := kAdd_ok (den_pos vB) (den_pos v1) h2
  obtain ⟨h0, e1⟩ := kMul_ok (den_pos vC) (den_pos vu) h1
  exact ⟨h0, by rw [e4, e3, e2, e1]⟩
theorem kSlope_ok {e : Int} {B C u : Int × Int} (vB : vF B = true) (vC : vF C = true) (vu : vF u = true) (h : (kSlope e B C u).2 = 0) : e = 0 ∧ fr (kSlope e B C u).1 = fr B + 2 * (fr C * fr u) := by
  unfold kSlope at h ⊢
  have v1 : vF (kMul e C u).1 = true := kMul_valid vC vu
  obtain ⟨h2, e3⟩ := kAdd_ok (den_pos vB) (den_pos (kMul_valid vF_two v1)) h
  obtain ⟨h1, e2⟩ := kMul_ok (den_pos vF_two) (den_pos v1) h2
  obtain ⟨h0, e1⟩ := kMul_ok (den_pos vC) (den_pos vu) h1
  exact ⟨h0, by
    rw [e3, e2, e1]
    have : fr (2, 1) = 2 := frq_one 2
    rw [this]⟩

/-- A quadratic piece over the rational numbers. -/
structure QP where
  f : Rat
  a : Rat
  b : Rat
  c : Rat
def qv (p : QP) (t : Rat) : Rat := p.a + (p.b + p.c * (t - p.f)) * (t - p.f)
def qs (p : QP) (t : Rat) : Rat := p.b + 2 * (p.c * (t - p.f))
theorem qv_diff (p : QP) (x y : Rat) : qv p y - qv p x = (y - x) * (p.b + p.c * ((x - p.f) + (y - p.f))) := by
  unfold qv; grind
theorem rat_total (a b : Rat) : a ≤ b ∨ b ≤ a := Rat.le_total
theorem slope_mid {b c l u v : Rat} (hb : 0 ≤ b) (hl : 0 ≤ b + 2 * (c * l)) (u0 : 0 ≤ u) (v0 : u ≤ v) (vl : v ≤ l) : 0 ≤ b + c * (u + v) := by
  rcases rat_total 0 c with h | h
  · have := Rat.mul_nonneg h (show 0 ≤ u + v by grind)
    grind
  · have := Rat.mul_nonneg (show 0 ≤ -c by grind) (show 0 ≤ 2 * l - (u + v) by grind)
    grind
theorem qv_mono {p : QP} {x y z : Rat} (hb : 0 ≤ p.b) (hs : 0 ≤ qs p z) (hx : p.f ≤ x) (xy : x ≤ y) (yz : y ≤ z) : qv p x ≤ qv p y := by
  have h := slope_mid (b := p.b) (c := p.c) (l := z - p.f) (u := x - p.f) (v := y - p.f) hb hs (by grind) (by grind) (by grind)
  have := Rat.mul_nonneg (show 0 ≤ y - x by grind) h
  have := qv_diff p x y
  grind
/-- The slope lies between those at both ends. -/
theorem qs_between {p : QP} {y z m n : Rat} (h1 : m ≤ p.b) (h2 : p.b ≤ n) (h3 : m ≤ qs p z) (h4 : qs p z ≤ n) (hy : p.f ≤ y) (yz : y ≤ z) : m ≤ qs p y ∧ qs p y ≤ n := by
  unfold qs at *
  have h := slope_mid (b := p.b - m) (c := p.c) (l := z - p.f) (u := y - p.f) (v := y - p.f) (by grind) (by grind) (by grind) (by grind) (by grind)
  have k := slope_mid (b := n - p.b) (c := -p.c) (l := z - p.f) (u := y - p.f) (v := y - p.f) (by grind) (by grind) (by grind) (by grind) (by grind)
  grind
/-- The value of a curve, and its slope. -/
def atL : List QP → Rat → Rat
  | [], _ => 0
  | [p], t => if p.f ≤ t then qv p t else p.a
  | p :: q :: r, t => if q.f ≤ t then atL (q :: r) t else if p.f ≤ t then qv p t else p.a
def slL : List QP → Rat → Rat
  | [], _ => 0
  | [p], t => if p.f ≤ t then qs p t else 0
  | p :: q :: r, t => if q.f ≤ t then slL (q :: r) t else if p.f ≤ t then qs p t else 0
def lastA : List QP → Rat
  | [] => 0
  | [p] => p.a
  | _ :: q :: r => lastA (q :: r)
def headF : List QP → Rat
  | [] => 0
  | p :: _ => p.f
def headA : List QP → Rat
  | [] => 0
  | p :: _ => p.a
def lastF : List QP → Rat
  | [] => 0
  | [p] => p.f
  | _ :: q :: r => lastF (q :: r)
/-- A curve that never falls, and rests at last; its slope is nowhere more than m. -/
inductive Up (m : Rat) : List QP → Prop
  | rest (p : QP) : p.b = 0 → p.c = 0 → 0 ≤ m → Up m [p]
  | go (p q : QP) (r : List QP) : p.f < q.f → 0 ≤ p.b → p.b ≤ m → 0 ≤ qs p q.f → qs p q.f ≤ m → qv p q.f = q.a → qs p q.f = q.b → Up m (q :: r) → Up m (p :: q :: r)
theorem qv_self (p : QP) : qv p p.f = p.a := by unfold qv; grind
theorem Up.range {m : Rat} {L : List QP} (h : Up m L) (t : Rat) : headA L ≤ atL L t ∧ atL L t ≤ lastA L ∧ headA L ≤ lastA L := by
  induction h with
  | rest p hb hc hm =>
    have : qv p t = p.a := by unfold qv; rw [hb, hc]; grind
    simp only [headA, lastA, atL]
    split <;> grind
  | go p q r hf h0 h1 h2 h3 h4 h5 h ih =>
    obtain ⟨i1, i2, i3⟩ := ih
    have hm := qv_mono (p := p) (x := p.f) (y := q.f) (z := q.f) h0 h2 Rat.le_refl (Rat.le_of_lt hf) Rat.le_refl
    rw [qv_self, h4] at hm
    simp only [headA] at *
    have e1 : lastA (p :: q :: r) = lastA (q :: r) := rfl
    rw [e1]
    by_cases c : q.f ≤ t
    · have : atL (p :: q :: r) t = atL (q :: r) t := by rw [atL, if_pos c]
      grind
    · by_cases d : p.f ≤ t
      · have e : atL (p :: q :: r) t = qv p t := by rw [atL, if_neg c, if_pos d]
        have a1 := qv_mono (p := p) (x := p.f) (y := t) (z := q.f) h0 h2 Rat.le_refl d (by grind)
        have a2 := qv_mono (p := p) (x := t) (y := q.f) (z := q.f) h0 h2 d (by grind) Rat.le_refl
        rw [qv_self] at a1
        grind
      · have : atL (p :: q :: r) t = p.a := by rw [atL, if_neg c, if_neg d]
        grind
theorem Up.mono {m : Rat} {L : List QP} (h : Up m L) {x y : Rat} (xy : x ≤ y) : atL L x ≤ atL L y := by
  induction h with
  | rest p hb hc hm =>
    have : ∀ t, qv p t = p.a := fun t => by unfold qv; rw [hb, hc]; grind
    simp only [atL]
    split <;> split <;> grind
  | go p q r hf h0 h1 h2 h3 h4 h5 h ih =>
    by_cases cx : q.f ≤ x
    · rw [atL, if_pos cx, atL, if_pos (Rat.le_trans cx xy)]; exact ih
    · by_cases cy : q.f ≤ y
      · have e : atL (p :: q :: r) y = atL (q :: r) y := by rw [atL, if_pos cy]
        have r1 := (h.range y).1
        simp only [headA] at r1
        by_cases d : p.f ≤ x
        · have e2 : atL (p :: q :: r) x = qv p x := by rw [atL, if_neg cx, if_pos d]
          have a2 := qv_mono (p := p) (x := x) (y := q.f) (z := q.f) h0 h2 d (by grind) Rat.le_refl
          grind
        · have e2 : atL (p :: q :: r) x = p.a := by rw [atL, if_neg cx, if_neg d]
          have hm := qv_mono (p := p) (x := p.f) (y := q.f) (z := q.f) h0 h2 Rat.le_refl (Rat.le_of_lt hf) Rat.le_refl
          rw [qv_self, h4] at hm
          grind
      · by_cases d : p.f ≤ x
        · have e2 : atL (p :: q :: r) x = qv p x := by rw [atL, if_neg cx, if_pos d]
          have e3 : atL (p :: q :: r) y = qv p y := by rw [atL, if_neg cy, if_pos (Rat.le_trans d xy)]
          rw [e2, e3]
          exact qv_mono (p := p) (z := q.f) h0 h2 d xy (by grind)
        · have e2 : atL (p :: q :: r) x = p.a := by rw [atL, if_neg cx, if_neg d]
          by_cases d' : p.f ≤ y
          · have e3 : atL (p :: q :: r) y = qv p y := by rw [atL, if_neg cy, if_pos d']
            have a1 := qv_mono (p := p) (x := p.f) (y := y) (z := q.f) h0 h2 Rat.le_refl d' (by grind)
            rw [qv_self] at a1
            grind
          · have e3 : atL (p :: q :: r) y = p.a := by rw [atL, if_neg cy, if_neg d']
            grind
theorem Up.slope {m : Rat} {L : List QP} (h : Up m L) (t : Rat) : 0 ≤ slL L t ∧ slL L t ≤ m := by
  induction h with
  | rest p hb hc hm =>
    have : qs p t = 0 := by unfold qs; rw [hb, hc]; grind
    simp only [slL]
    split <;> grind
  | go p q r hf h0 h1 h2 h3 h4 h5 h ih =>
    by_cases c : q.f ≤ t
    · rw [slL, if_pos c]; exact ih
    · by_cases d : p.f ≤ t
      · rw [slL, if_neg c, if_pos d]
        exact qs_between h0 h1 h2 h3 d (by grind)
      · rw [slL, if_neg c, if_neg d]
        grind
/-- From its last knot on a curve that rests has its last value. -/
theorem Up.after {m : Rat} {L : List QP} (h : Up m L) {t : Rat} (ht : lastF L ≤ t) : atL L t = lastA L := by
  induction h with
  | rest p hb hc hm =>
    have : qv p t = p.a := by unfold qv; rw [hb, hc]; grind
    simp only [lastA, atL]
    split <;> grind
  | go p q r hf h0 h1 h2 h3 h4 h5 h ih =>
    have e : lastF (p :: q :: r) = lastF (q :: r) := rfl
    have e1 : lastA (p :: q :: r) = lastA (q :: r) := rfl
    have up : ∀ {L : List QP}, Up m L → headF L ≤ lastF L := fun {L} h => by
      induction h with
      | rest p _ _ _ => exact Rat.le_refl
      | go p q r hf _ _ _ _ _ _ _ ih =>
        have e : lastF (p :: q :: r) = lastF (q :: r) := rfl
        rw [e]
        simp only [headF] at *
        grind
    have := up h
    simp only [headF] at this
    rw [e] at ht
    rw [e1, atL, if_pos (Rat.le_trans this ht)]
    exact ih ht
end Go.Proofs.Ytlgpolfbilkmbaa
