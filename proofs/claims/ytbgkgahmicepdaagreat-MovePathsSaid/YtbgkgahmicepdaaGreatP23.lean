/-
  PLAIN: fractions as rational numbers; curves of quadratic pieces over the rational numbers: where they rise, and where they are smooth.
-/
import Derived.Test.YtbgkgahmicepdaaGreatP22
import Derived.Test.YtbgkgahmicepdaaGreatP14
import Derived.Test.YtbgkgahmicepdaaGreatP16
namespace Go.Proofs.YtbgkgahmicepdaaGreat
set_option maxRecDepth 100000
set_option maxHeartbeats 80000000
set_option linter.unusedSimpArgs false
section
def fr (a : Int × Int) : Rat := (a.1 : Rat) / (a.2 : Rat)
theorem cast_pos {d : Int} (h : 0 < d) : (0 : Rat) < (d : Rat) := Rat.intCast_pos.2 h
theorem cast_ne {d : Int} (h : 0 < d) : (d : Rat) ≠ 0 := fun e => by have := cast_pos h; rw [e] at this; exact Rat.lt_irrefl this
theorem frq_mul (a : Int × Int) (h : 0 < a.2) : fr a * (a.2 : Rat) = (a.1 : Rat) := Rat.div_mul_cancel (cast_ne h)
theorem frq_one (n : Int) : fr (n, 1) = (n : Rat) := by
 show (n : Rat) / (1 : Rat) = (n : Rat)
 grind
theorem frq_zero : fr (0, 1) = 0 := frq_one 0
theorem frq_le {a b : Int × Int} (ha : 0 < a.2) (hb : 0 < b.2) : fr a ≤ fr b ↔ a.1 * b.2 ≤ b.1 * a.2 := by
 have h := frq_mul a ha;have k := frq_mul b hb;have pa := cast_pos ha;have pb := cast_pos hb;rw [← Rat.intCast_le_intCast, Rat.intCast_mul, Rat.intCast_mul, ← h, ← k];have pp := Rat.mul_pos pa pb;rw [show fr a * (a.2 : Rat) * (b.2 : Rat) = fr a * ((a.2 : Rat) * (b.2 : Rat)) by grind, show fr b * (b.2 : Rat) * (a.2 : Rat) = fr b * ((a.2 : Rat) * (b.2 : Rat)) by grind];exact ⟨fun x => Rat.mul_le_mul_of_nonneg_right x (Rat.le_of_lt pp), fun x => Rat.le_of_mul_le_mul_right x pp⟩
theorem frq_lt {a b : Int × Int} (ha : 0 < a.2) (hb : 0 < b.2) : fr a < fr b ↔ a.1 * b.2 < b.1 * a.2 := by
 rw [← Rat.not_le, frq_le hb ha]; omega
theorem frq_eq {a b : Int × Int} (ha : 0 < a.2) (hb : 0 < b.2) : fr a = fr b ↔ a.1 * b.2 = b.1 * a.2 := by
 constructor
 ·intro h
  have x := (frq_le ha hb).1 (by rw [h]; exact Rat.le_refl);have y := (frq_le hb ha).1 (by rw [h]; exact Rat.le_refl);omega
 ·intro h
  exact Rat.le_antisymm ((frq_le ha hb).2 (by omega)) ((frq_le hb ha).2 (by omega))
theorem frq_low (n d : Int) (hd : 0 < d) : fr (lowN n d, lowD n d) = (n : Rat) / (d : Rat) :=
 (frq_eq (a := (lowN n d, lowD n d)) (b := (n, d)) (lowD_pos hd) hd).2 (low_cross n d)
theorem div_add (a b c d : Rat) (hb : b ≠ 0) (hd : d ≠ 0) : a / b + c / d = (a * d + c * b) / (b * d) := by grind
theorem frq_add {a b : Int × Int} (ha : 0 < a.2) (hb : 0 < b.2) : fr (lowN (a.1 * b.2 + b.1 * a.2) (a.2 * b.2), lowD (a.1 * b.2 + b.1 * a.2) (a.2 * b.2)) = fr a + fr b := by
 rw [frq_low _ _ (Int.mul_pos ha hb)];unfold fr;rw [div_add _ _ _ _ (cast_ne ha) (cast_ne hb)]
 simp
theorem frq_neg (a : Int × Int) : fr (-a.1, a.2) = -fr a := by unfold fr; simp [Rat.div_def, Rat.neg_mul]
theorem frq_times {a b : Int × Int} (ha : 0 < a.2) (hb : 0 < b.2) : fr (lowN (a.1 * b.1) (a.2 * b.2), lowD (a.1 * b.1) (a.2 * b.2)) = fr a * fr b := by
 rw [frq_low _ _ (Int.mul_pos ha hb)];unfold fr;have := cast_ne ha;have := cast_ne hb
 simp
 grind
theorem kp_ok {e p q : Int} (h : (kp e (fitP p q)).2 = 0) : e = 0 ∧ (kp e (fitP p q)).1 = (p, q) := by
 unfold kp at *
 by_cases z : (fitP p q).2.2 = 0
 ·rw [if_pos z] at h ⊢
  refine ⟨h, ?_⟩;unfold fitP at *
  split at z
  ·cases z
  next hn => rw [if_neg hn]
 ·rw [if_neg z] at h
  simp only at h
  split at h
  ·exact absurd h z
  next hn => exact absurd h hn
theorem kAdd_ok {e : Int} {a b : Int × Int} (ha : 0 < a.2) (hb : 0 < b.2) (h : (kAdd e a b).2 = 0) : e = 0 ∧ fr (kAdd e a b).1 = fr a + fr b := by
 obtain ⟨h1, h2⟩ := kp_ok (h : (kp e (fitP _ _)).2 = 0);exact ⟨h1, by rw [← frq_add ha hb]; exact congrArg fr h2⟩
theorem kSub_ok {e : Int} {a b : Int × Int} (ha : 0 < a.2) (hb : 0 < b.2) (h : (kSub e a b).2 = 0) : e = 0 ∧ fr (kSub e a b).1 = fr a - fr b := by
 obtain ⟨h1, h2⟩ := kAdd_ok (e := e) (a := a) (b := (-b.1, b.2)) ha hb h;exact ⟨h1, by rw [frq_neg] at h2; rw [Rat.sub_eq_add_neg, ← h2]; rfl⟩
theorem kMul_ok {e : Int} {a b : Int × Int} (ha : 0 < a.2) (hb : 0 < b.2) (h : (kMul e a b).2 = 0) : e = 0 ∧ fr (kMul e a b).1 = fr a * fr b := by
 obtain ⟨h1, h2⟩ := kp_ok (h : (kp e (fitP _ _)).2 = 0);exact ⟨h1, by rw [← frq_times ha hb]; exact congrArg fr h2⟩
theorem kSlope_ok {e : Int} {B C u : Int × Int} (vB : vF B = true) (vC : vF C = true) (vu : vF u = true) (h : (kSlope e B C u).2 = 0) : e = 0 ∧ fr (kSlope e B C u).1 = fr B + 2 * (fr C * fr u) := by
 unfold kSlope at h ⊢;have v1 : vF (kMul e C u).1 = true := kMul_valid vC vu;obtain ⟨h2, e3⟩ := kAdd_ok (den_pos vB) (den_pos (kMul_valid vF_two v1)) h;obtain ⟨h1, e2⟩ := kMul_ok (den_pos vF_two) (den_pos v1) h2;obtain ⟨h0, e1⟩ := kMul_ok (den_pos vC) (den_pos vu) h1
 exact ⟨h0, by
  rw [e3, e2, e1];have : fr (2, 1) = 2 := frq_one 2;rw [this]⟩

structure QP where
 f : Rat
 a : Rat
 b : Rat
 c : Rat
def qv (p : QP) (t : Rat) : Rat := p.a + (p.b + p.c * (t - p.f)) * (t - p.f)
def qs (p : QP) (t : Rat) : Rat := p.b + 2 * (p.c * (t - p.f))
theorem qv_diff (p : QP) (x y : Rat) : qv p y - qv p x = (y - x) * (p.b + p.c * ((x - p.f) + (y - p.f))) := by
 unfold qv; grind
theorem rat_total (a b : Rat) : a ≤ b ∨ b ≤ a := Rat.le_total
theorem slope_mid {b c l u v : Rat} (hb : 0 ≤ b) (hl : 0 ≤ b + 2 * (c * l)) (u0 : 0 ≤ u) (v0 : u ≤ v) (vl : v ≤ l) : 0 ≤ b + c * (u + v) := by
 rcases rat_total 0 c with h | h
 ·have := Rat.mul_nonneg h (show 0 ≤ u + v by grind)
  grind
 ·have := Rat.mul_nonneg (show 0 ≤ -c by grind) (show 0 ≤ 2 * l - (u + v) by grind)
  grind
theorem qv_mono {p : QP} {x y z : Rat} (hb : 0 ≤ p.b) (hs : 0 ≤ qs p z) (hx : p.f ≤ x) (xy : x ≤ y) (yz : y ≤ z) : qv p x ≤ qv p y := by
 have h := slope_mid (b := p.b) (c := p.c) (l := z - p.f) (u := x - p.f) (v := y - p.f) hb hs (by grind) (by grind) (by grind);have := Rat.mul_nonneg (show 0 ≤ y - x by grind) h;have := qv_diff p x y
 grind
theorem qs_between {p : QP} {y z m n : Rat} (h1 : m ≤ p.b) (h2 : p.b ≤ n) (h3 : m ≤ qs p z) (h4 : qs p z ≤ n) (hy : p.f ≤ y) (yz : y ≤ z) : m ≤ qs p y ∧ qs p y ≤ n := by
 unfold qs at *;have h := slope_mid (b := p.b - m) (c := p.c) (l := z - p.f) (u := y - p.f) (v := y - p.f) (by grind) (by grind) (by grind) (by grind) (by grind);have k := slope_mid (b := n - p.b) (c := -p.c) (l := z - p.f) (u := y - p.f) (v := y - p.f) (by grind) (by grind) (by grind) (by grind) (by grind)
 grind
def atL : List QP → Rat → Rat
 | [], _ => 0
 | [p], t => if p.f ≤ t then qv p t else p.a
 | p :: q :: r, t => if q.f ≤ t then atL (q :: r) t else if p.f ≤ t then qv p t else p.a
def slL : List QP → Rat → Rat
 | [], _ => 0
 | [p], t => if p.f ≤ t then qs p t else 0
 | p :: q :: r, t => if q.f ≤ t then slL (q :: r) t else if p.f ≤ t then qs p t else 0
def lastA : List QP → Rat
 | [] => 0
 | [p] => p.a
 | _ :: q :: r => lastA (q :: r)
def headF : List QP → Rat
 | [] => 0
 | p :: _ => p.f
def headA : List QP → Rat
 | [] => 0
 | p :: _ => p.a
def lastF : List QP → Rat
 | [] => 0
 | [p] => p.f
 | _ :: q :: r => lastF (q :: r)
inductive Up (m : Rat) : List QP → Prop
 | rest (p : QP) : p.b = 0 → p.c = 0 → 0 ≤ m → Up m [p]
 | go (p q : QP) (r : List QP) : p.f < q.f → 0 ≤ p.b → p.b ≤ m → 0 ≤ qs p q.f → qs p q.f ≤ m → qv p q.f = q.a → qs p q.f = q.b → Up m (q :: r) → Up m (p :: q :: r)
theorem qv_self (p : QP) : qv p p.f = p.a := by unfold qv; grind
theorem Up.range {m : Rat} {L : List QP} (h : Up m L) (t : Rat) : headA L ≤ atL L t ∧ atL L t ≤ lastA L ∧ headA L ≤ lastA L := by
 induction h with
 | rest p hb hc hm =>
  have : qv p t = p.a := by unfold qv; rw [hb, hc]; grind
  simp only [headA, lastA, atL]
  split <;> grind
 | go p q r hf h0 h1 h2 h3 h4 h5 h ih =>
  obtain ⟨i1, i2, i3⟩ := ih;have hm := qv_mono (p := p) (x := p.f) (y := q.f) (z := q.f) h0 h2 Rat.le_refl (Rat.le_of_lt hf) Rat.le_refl;rw [qv_self, h4] at hm;simp only [headA] at *;have e1 : lastA (p :: q :: r) = lastA (q :: r) := rfl;rw [e1]
  by_cases c : q.f ≤ t
  ·have : atL (p :: q :: r) t = atL (q :: r) t := by rw [atL, if_pos c]
   grind
  ·by_cases d : p.f ≤ t
   ·have e : atL (p :: q :: r) t = qv p t := by rw [atL, if_neg c, if_pos d]
    have a1 := qv_mono (p := p) (x := p.f) (y := t) (z := q.f) h0 h2 Rat.le_refl d (by grind);have a2 := qv_mono (p := p) (x := t) (y := q.f) (z := q.f) h0 h2 d (by grind) Rat.le_refl;rw [qv_self] at a1
    grind
   ·have : atL (p :: q :: r) t = p.a := by rw [atL, if_neg c, if_neg d]
    grind
theorem Up.mono {m : Rat} {L : List QP} (h : Up m L) {x y : Rat} (xy : x ≤ y) : atL L x ≤ atL L y := by
 induction h with
 | rest p hb hc hm =>
  have : ∀ t, qv p t = p.a := fun t => by unfold qv; rw [hb, hc]; grind
  simp only [atL]
  split <;> split <;> grind
 | go p q r hf h0 h1 h2 h3 h4 h5 h ih =>
  by_cases cx : q.f ≤ x
  ·rw [atL, if_pos cx, atL, if_pos (Rat.le_trans cx xy)]; exact ih
  ·by_cases cy : q.f ≤ y
   ·have e : atL (p :: q :: r) y = atL (q :: r) y := by rw [atL, if_pos cy]
    have r1 := (h.range y).1;simp only [headA] at r1
    by_cases d : p.f ≤ x
    ·have e2 : atL (p :: q :: r) x = qv p x := by rw [atL, if_neg cx, if_pos d]
     have a2 := qv_mono (p := p) (x := x) (y := q.f) (z := q.f) h0 h2 d (by grind) Rat.le_refl
     grind
    ·have e2 : atL (p :: q :: r) x = p.a := by rw [atL, if_neg cx, if_neg d]
     have hm := qv_mono (p := p) (x := p.f) (y := q.f) (z := q.f) h0 h2 Rat.le_refl (Rat.le_of_lt hf) Rat.le_refl;rw [qv_self, h4] at hm
     grind
   ·by_cases d : p.f ≤ x
    ·have e2 : atL (p :: q :: r) x = qv p x := by rw [atL, if_neg cx, if_pos d]
     have e3 : atL (p :: q :: r) y = qv p y := by rw [atL, if_neg cy, if_pos (Rat.le_trans d xy)]
     rw [e2, e3];exact qv_mono (p := p) (z := q.f) h0 h2 d xy (by grind)
    ·have e2 : atL (p :: q :: r) x = p.a := by rw [atL, if_neg cx, if_neg d]
     by_cases d' : p.f ≤ y
     ·have e3 : atL (p :: q :: r) y = qv p y := by rw [atL, if_neg cy, if_pos d']
      have a1 := qv_mono (p := p) (x := p.f) (y := y) (z := q.f) h0 h2 Rat.le_refl d' (by grind);rw [qv_self] at a1
      grind
     ·have e3 : atL (p :: q :: r) y = p.a := by rw [atL, if_neg cy, if_neg d']
      grind
theorem Up.slope {m : Rat} {L : List QP} (h : Up m L) (t : Rat) : 0 ≤ slL L t ∧ slL L t ≤ m := by
 induction h with
 | rest p hb hc hm =>
  have : qs p t = 0 := by unfold qs; rw [hb, hc]; grind
  simp only [slL]
  split <;> grind
 | go p q r hf h0 h1 h2 h3 h4 h5 h ih =>
  by_cases c : q.f ≤ t
  ·rw [slL, if_pos c]; exact ih
  ·by_cases d : p.f ≤ t
   ·rw [slL, if_neg c, if_pos d]
    exact qs_between h0 h1 h2 h3 d (by grind)
   ·rw [slL, if_neg c, if_neg d]
    grind
theorem Up.after {m : Rat} {L : List QP} (h : Up m L) {t : Rat} (ht : lastF L ≤ t) : atL L t = lastA L := by
 induction h with
 | rest p hb hc hm =>
  have : qv p t = p.a := by unfold qv; rw [hb, hc]; grind
  simp only [lastA, atL]
  split <;> grind
 | go p q r hf h0 h1 h2 h3 h4 h5 h ih =>
  have e : lastF (p :: q :: r) = lastF (q :: r) := rfl;have e1 : lastA (p :: q :: r) = lastA (q :: r) := rfl
  have up : ∀ {L : List QP}, Up m L → headF L ≤ lastF L := fun {L} h => by
   induction h with
   | rest p _ _ _ => exact Rat.le_refl
   | go p q r hf _ _ _ _ _ _ _ ih =>
    have e : lastF (p :: q :: r) = lastF (q :: r) := rfl;rw [e];simp only [headF] at *
    grind
  have := up h;simp only [headF] at this;rw [e] at ht;rw [e1, atL, if_pos (Rat.le_trans this ht)];exact ih ht
end
section
open Go.RowKit Go.Shelf
theorem sub_all (an ad bn bd : Int) (va : validF an ad = true) (vb : validF bn bd = true) (w : World) :
  Calls Tryz.prog 32 #[.agg #[.int .i64 an, .int .i64 ad], .agg #[.int .i64 bn, .int .i64 bd]] w fun e w' => e = .returned (.tuple #[.agg #[.int .i64 (addP an ad (-bn) bd).1, .int .i64 (addP an ad (-bn) bd).2.1], .int .i64 (addP an ad (-bn) bd).2.2]) ∧ Below w.heap.size w w' := by
 obtain ⟨P, hP⟩ := nm (addP an ad (-bn) bd);have HPP := lh hP;rw [hP];clear hP;obtain ⟨b1, b2, b3, b4, b5⟩ := (validF_iff _ _).1 vb;have wn : IntKind.i64.wrap (-bn) = -bn := IntWalk.i64_in _ (by omega);have HVA := lh va;have HVB := lh vb;have HC := lh (add_all an ad (-bn) bd va (valid_neg vb));clear va vb b5
 go_enter Tryz.func32, Tryz.ntmps32
 go_wp2_with (first
  | (go_at_call 60; (with_reducible refine (valid_any an ad _).mono ?_); rintro e w1 ⟨rfl, hb1⟩; rw [HVA.out]; have z0 : w1.cell? ⟨w.heap.size, 0, none⟩ = some (.int .i64 an) := (hb1.cell (p := ⟨w.heap.size, 0, none⟩) (by simp <;> omega)).trans (by simp [go_sem, World.cell?_alloc_past]); have z1 : w1.cell? ⟨w.heap.size, 1, none⟩ = some (.int .i64 ad) := (hb1.cell (p := ⟨w.heap.size, 1, none⟩) (by simp <;> omega)).trans (by simp [go_sem, World.cell?_alloc_past]); have z2 : w1.cell? ⟨w.heap.size + 1, 0, none⟩ = some (.int .i64 bn) := (hb1.cell (p := ⟨w.heap.size + 1, 0, none⟩) (by simp <;> omega)).trans (by simp [go_sem, World.cell?_alloc_past]); have z3 : w1.cell? ⟨w.heap.size + 1, 1, none⟩ = some (.int .i64 bd) := (hb1.cell (p := ⟨w.heap.size + 1, 1, none⟩) (by simp <;> omega)).trans (by simp [go_sem, World.cell?_alloc_past]))
  | (go_at_call 60; (with_reducible refine (valid_any bn bd _).mono ?_); rintro e w2 ⟨rfl, hb2⟩; rw [HVB.out]; have z4 : w2.cell? ⟨w.heap.size, 0, none⟩ = some (.int .i64 an) := (hb2.cell (p := ⟨w.heap.size, 0, none⟩) (wl z0)).trans z0; have z5 : w2.cell? ⟨w.heap.size, 1, none⟩ = some (.int .i64 ad) := (hb2.cell (p := ⟨w.heap.size, 1, none⟩) (wl z1)).trans z1; have z6 : w2.cell? ⟨w.heap.size + 1, 0, none⟩ = some (.int .i64 bn) := (hb2.cell (p := ⟨w.heap.size + 1, 0, none⟩) (wl z2)).trans z2; have z7 : w2.cell? ⟨w.heap.size + 1, 1, none⟩ = some (.int .i64 bd) := (hb2.cell (p := ⟨w.heap.size + 1, 1, none⟩) (wl z3)).trans z3)
  | (go_at_call 31; (with_reducible refine (HC.out _).mono ?_); rintro e w3 ⟨rfl, hb3⟩; rw [HPP.out]; have hb4 := hb1.trans ((hb2.trans (hb3.mono hb2.size)).mono hb1.size); have l4 : w3.cell? ⟨w.heap.size + 1 + 1, 0, none⟩ = some (.int .i64 0) := (hb4.cell (p := ⟨w.heap.size + 1 + 1, 0, none⟩) (by simp <;> omega)).trans (by simp [go_sem]); have l5 : w3.cell? ⟨w.heap.size + 1 + 1, 1, none⟩ = some (.int .i64 0) := (hb4.cell (p := ⟨w.heap.size + 1 + 1, 1, none⟩) (by simp <;> omega)).trans (by simp [go_sem]); have l6 : w3.frozen? ⟨w.heap.size + 1 + 1, 0, none⟩ = false := (hb4.frozen (p := ⟨w.heap.size + 1 + 1, 0, none⟩) (by simp <;> omega)).trans (by simp [go_sem]); have l7 : w3.frozen? ⟨w.heap.size + 1 + 1, 1, none⟩ = false := (hb4.frozen (p := ⟨w.heap.size + 1 + 1, 1, none⟩) (by simp <;> omega)).trans (by simp [go_sem])))
 have s2 := (two_cells (v0 := .int .i64 P.1) (v1 := .int .i64 P.2.1) l4 l5).1;have s3 := (two_cells (v0 := .int .i64 P.1) (v1 := .int .i64 P.2.1) l4 l5).2;refine bodyPost_ret (v := .tuple #[.agg #[.int .i64 P.1, .int .i64 P.2.1], .int .i64 P.2.2]) (by simp [results, Tryz.results32, go_sem, s2, s3]) rfl ⟨rfl, ?_⟩;have hBW := (((below_new w (.cells #[.int .i64 an, .int .i64 ad] 29)).alloc (by simp) (.cells #[.int .i64 bn, .int .i64 bd] 29)).alloc (by simp <;> omega) (.cells #[.int .i64 0, .int .i64 0] 29)).trans (hb4.mono (by simp <;> omega));exact (hBW.setCell (p := ⟨w.heap.size + 1 + 1, 0, none⟩) (by simp <;> omega) _).setCell (p := ⟨w.heap.size + 1 + 1, 1, none⟩) (by simp <;> omega) _
theorem qzero_any (w : World) : Calls Tryz.prog 66 #[] w fun e w' => e = .returned (.agg #[.int .i64 0, .int .i64 1]) ∧ Below w.heap.size w w' := by
 go_enter Tryz.func66, Tryz.ntmps66
 go_wp2_with fail
 refine bodyPost_ret (v := .agg #[.int .i64 0, .int .i64 1]) (by simp [results, Tryz.results66, go_sem]) rfl ⟨rfl, ?_⟩;exact below_new _ _
theorem qkeep_any (b : Nat) (e n d er : Int) (w : World) (hc : w.cell? ⟨b, 0, none⟩ = some (.int .i64 e)) (hf : w.frozen? ⟨b, 0, none⟩ = false) :
  Calls Tryz.prog 108 #[.pointer (some ⟨b, 0, none⟩), .agg #[.int .i64 n, .int .i64 d], .int .i64 er] w fun x w' => x = .returned (.agg #[.int .i64 (kp e (n, d, er)).1.1, .int .i64 (kp e (n, d, er)).1.2]) ∧ Sm b (kp e (n, d, er)).2 w w' := by
 have hb : b < w.heap.size := wl hc;have hsz : (w.alloc (.cells #[.int .i64 n, .int .i64 d] 29)).heap.size = w.heap.size + 1 := by simp
 by_cases z : er = 0
 ·have HR : Hid (kp e (n, d, er) = ((n, d), e)) := lh (by unfold kp; rw [if_pos z])
  rw [HR.out];subst z
  go_enter Tryz.func108, Tryz.ntmps108
  go_wp2_with fail
  refine bodyPost_ret (v := .agg #[.int .i64 n, .int .i64 d]) (by simp [results, Tryz.results108, go_sem]) rfl ⟨rfl, ?_⟩;exact Sm.of ((below_new w _).alloc (by simp) _) hc hf
 ·have z1 : (er == 0) = false := beq_eq_false_iff_ne.2 z
  have z2 : (er != 0) = true := by simpa using z
  by_cases y : e = 0
  ·have HR : Hid (kp e (n, d, er) = ((0, 1), er)) := lh (by unfold kp; rw [if_neg z, if_pos y])
   rw [HR.out];subst y;clear z
   go_enter Tryz.func108, Tryz.ntmps108
   go_wp2_with (go_at_call 66; (with_reducible refine (qzero_any _).mono ?_); rintro x w1 ⟨rfl, hb1⟩; have c0 : w1.cell? ⟨w.heap.size + 1, 0, none⟩ = some (.int .i64 0) := (hb1.cell (p := ⟨w.heap.size + 1, 0, none⟩) (by simp <;> omega)).trans (by simp [go_sem]); have c1 : w1.cell? ⟨w.heap.size + 1, 1, none⟩ = some (.int .i64 0) := (hb1.cell (p := ⟨w.heap.size + 1, 1, none⟩) (by simp <;> omega)).trans (by simp [go_sem]); have c2 : w1.frozen? ⟨w.heap.size + 1, 0, none⟩ = false := (hb1.frozen (p := ⟨w.heap.size + 1, 0, none⟩) (by simp <;> omega)).trans (by simp [go_sem]); have c3 : w1.frozen? ⟨w.heap.size + 1, 1, none⟩ = false := (hb1.frozen (p := ⟨w.heap.size + 1, 1, none⟩) (by simp <;> omega)).trans (by simp [go_sem]))
   have l0 := (two_cells (v0 := .int .i64 0) (v1 := .int .i64 1) c0 c1).1;have l1 := (two_cells (v0 := .int .i64 0) (v1 := .int .i64 1) c0 c1).2;refine bodyPost_ret (v := .agg #[.int .i64 0, .int .i64 1]) (by simp [results, Tryz.results108, go_sem, l0, l1]) rfl ⟨rfl, ?_⟩;have k1 := (((Sm.set er hc hf).alloc (.cells #[.int .i64 n, .int .i64 d] 29)).alloc (.cells #[.int .i64 0, .int .i64 0] 29)).then hb1
   exact (k1.setCell (p := ⟨w.heap.size + 1, 0, none⟩) (Nat.le_succ _) hb _).setCell (p := ⟨w.heap.size + 1, 1, none⟩) (Nat.le_succ _) hb _
  ·have y1 : (e == 0) = false := beq_eq_false_iff_ne.2 y
   have HR : Hid (kp e (n, d, er) = ((0, 1), e)) := lh (by unfold kp; rw [if_neg z, if_neg y]);rw [HR.out];clear y z
   go_enter Tryz.func108, Tryz.ntmps108
   go_wp2_with (go_at_call 66; (with_reducible refine (qzero_any _).mono ?_); rintro x w1 ⟨rfl, hb1⟩; have c0 : w1.cell? ⟨w.heap.size + 1, 0, none⟩ = some (.int .i64 0) := (hb1.cell (p := ⟨w.heap.size + 1, 0, none⟩) (by simp <;> omega)).trans (by simp [go_sem]); have c1 : w1.cell? ⟨w.heap.size + 1, 1, none⟩ = some (.int .i64 0) := (hb1.cell (p := ⟨w.heap.size + 1, 1, none⟩) (by simp <;> omega)).trans (by simp [go_sem]); have c2 : w1.frozen? ⟨w.heap.size + 1, 0, none⟩ = false := (hb1.frozen (p := ⟨w.heap.size + 1, 0, none⟩) (by simp <;> omega)).trans (by simp [go_sem]); have c3 : w1.frozen? ⟨w.heap.size + 1, 1, none⟩ = false := (hb1.frozen (p := ⟨w.heap.size + 1, 1, none⟩) (by simp <;> omega)).trans (by simp [go_sem]))
   have l0 := (two_cells (v0 := .int .i64 0) (v1 := .int .i64 1) c0 c1).1;have l1 := (two_cells (v0 := .int .i64 0) (v1 := .int .i64 1) c0 c1).2;refine bodyPost_ret (v := .agg #[.int .i64 0, .int .i64 1]) (by simp [results, Tryz.results108, go_sem, l0, l1]) rfl ⟨rfl, ?_⟩;have k0 : Below w.heap.size w ((w.alloc (.cells #[.int .i64 n, .int .i64 d] 29)).alloc (.cells #[.int .i64 0, .int .i64 0] 29)) := (below_new _ _).alloc (by simp) _;have k1 := k0.trans (hb1.mono k0.size);exact Sm.of ((k1.setCell (p := ⟨w.heap.size + 1, 0, none⟩) (Nat.le_succ _) _).setCell (p := ⟨w.heap.size + 1, 1, none⟩) (Nat.le_succ _) _) hc hf
theorem kadd_any (b : Nat) (e : Int) (x y : Int × Int) (hx : vF x = true) (hy : vF y = true) (w : World) (hc : w.cell? ⟨b, 0, none⟩ = some (.int .i64 e)) (hf : w.frozen? ⟨b, 0, none⟩ = false) :
  Calls Tryz.prog 106 #[.pointer (some ⟨b, 0, none⟩), .agg #[.int .i64 x.1, .int .i64 x.2], .agg #[.int .i64 y.1, .int .i64 y.2]] w fun z w' => z = .returned (.agg #[.int .i64 (kAdd e x y).1.1, .int .i64 (kAdd e x y).1.2]) ∧ Sm b (kAdd e x y).2 w w' := by
 obtain ⟨an, ad⟩ := x;obtain ⟨bn, bd⟩ := y;have hb : b < w.heap.size := wl hc;obtain ⟨P, hP⟩ := nm (addP an ad bn bd)
 have HC : Hid (∀ w : World, Calls Tryz.prog 31 #[.agg #[.int .i64 an, .int .i64 ad], .agg #[.int .i64 bn, .int .i64 bd]] w fun e w' => e = .returned (.tuple #[.agg #[.int .i64 P.1, .int .i64 P.2.1], .int .i64 P.2.2]) ∧ Below w.heap.size w w') := lh fun w => by
  have := add_all an ad bn bd hx hy w
  rwa [hP] at this
 have HR : Hid (kAdd e (an, ad) (bn, bd) = kp e (P.1, P.2.1, P.2.2)) := lh (by unfold kAdd; rw [hP]);rw [HR.out];clear hP hx hy;generalize hK : kp e (P.1, P.2.1, P.2.2) = K;have HK := lh hK;clear hK
 go_enter Tryz.func106, Tryz.ntmps106
 go_wp2_with (first
  | (go_at_call 31; (with_reducible refine (HC.out _).mono ?_); rintro x w1 ⟨rfl, hb1⟩; have k0 : Below w.heap.size w w1 := (((below_new w (.cells #[.int .i64 an, .int .i64 ad] 29)).alloc (by simp) (.cells #[.int .i64 bn, .int .i64 bd] 29)).alloc (by simp <;> omega) (.cells #[.int .i64 0, .int .i64 0] 29)).trans (hb1.mono (by simp <;> omega)); have q0 : w1.cell? ⟨w.heap.size + 1 + 1, 0, none⟩ = some (.int .i64 0) := (hb1.cell (p := ⟨w.heap.size + 1 + 1, 0, none⟩) (by simp <;> omega)).trans (by simp [go_sem]); have q1 : w1.cell? ⟨w.heap.size + 1 + 1, 1, none⟩ = some (.int .i64 0) := (hb1.cell (p := ⟨w.heap.size + 1 + 1, 1, none⟩) (by simp <;> omega)).trans (by simp [go_sem]); have q2 : w1.frozen? ⟨w.heap.size + 1 + 1, 0, none⟩ = false := (hb1.frozen (p := ⟨w.heap.size + 1 + 1, 0, none⟩) (by simp <;> omega)).trans (by simp [go_sem]); have q3 : w1.frozen? ⟨w.heap.size + 1 + 1, 1, none⟩ = false := (hb1.frozen (p := ⟨w.heap.size + 1 + 1, 1, none⟩) (by simp <;> omega)).trans (by simp [go_sem]); have q4 : w.heap.size + 1 + 1 < w1.heap.size := wl q0)
  | (go_at_call 108; (with_reducible refine (qkeep_any b e P.1 P.2.1 P.2.2 _ ((k0.cell (p := ⟨b, 0, none⟩) hb).trans hc) ((k0.frozen (p := ⟨b, 0, none⟩) hb).trans hf)).mono ?_); rintro x w2 ⟨rfl, hs2⟩; rw [HK.out] at hs2 ⊢; have r0 := (hs2.other (p := ⟨w.heap.size + 1 + 1, 0, none⟩) q4 (by simp <;> omega)).trans q0; have r1 := (hs2.other (p := ⟨w.heap.size + 1 + 1, 1, none⟩) q4 (by simp <;> omega)).trans q1; have r2 := (hs2.otherF (p := ⟨w.heap.size + 1 + 1, 0, none⟩) q4 (by simp <;> omega)).trans q2; have r3 := (hs2.otherF (p := ⟨w.heap.size + 1 + 1, 1, none⟩) q4 (by simp <;> omega)).trans q3))
 have l0 := (two_cells (v0 := .int .i64 K.1.1) (v1 := .int .i64 K.1.2) r0 r1).1;have l1 := (two_cells (v0 := .int .i64 K.1.1) (v1 := .int .i64 K.1.2) r0 r1).2;refine bodyPost_ret (v := .agg #[.int .i64 K.1.1, .int .i64 K.1.2]) (by simp [results, Tryz.results106, go_sem, l0, l1]) rfl ⟨rfl, ?_⟩;exact ((Sm.from k0 hb hs2).setCell (p := ⟨w.heap.size + 1 + 1, 0, none⟩) (by simp <;> omega) hb _).setCell (p := ⟨w.heap.size + 1 + 1, 1, none⟩) (by simp <;> omega) hb _
theorem ksub_any (b : Nat) (e : Int) (x y : Int × Int) (hx : vF x = true) (hy : vF y = true) (w : World) (hc : w.cell? ⟨b, 0, none⟩ = some (.int .i64 e)) (hf : w.frozen? ⟨b, 0, none⟩ = false) :
  Calls Tryz.prog 65 #[.pointer (some ⟨b, 0, none⟩), .agg #[.int .i64 x.1, .int .i64 x.2], .agg #[.int .i64 y.1, .int .i64 y.2]] w fun z w' => z = .returned (.agg #[.int .i64 (kSub e x y).1.1, .int .i64 (kSub e x y).1.2]) ∧ Sm b (kSub e x y).2 w w' := by
 obtain ⟨an, ad⟩ := x;obtain ⟨bn, bd⟩ := y;have hb : b < w.heap.size := wl hc;obtain ⟨P, hP⟩ := nm (addP an ad (-bn) bd)
 have HC : Hid (∀ w : World, Calls Tryz.prog 32 #[.agg #[.int .i64 an, .int .i64 ad], .agg #[.int .i64 bn, .int .i64 bd]] w fun e w' => e = .returned (.tuple #[.agg #[.int .i64 P.1, .int .i64 P.2.1], .int .i64 P.2.2]) ∧ Below w.heap.size w w') := lh fun w => by
  have := sub_all an ad bn bd hx hy w
  rwa [hP] at this
 have HR : Hid (kSub e (an, ad) (bn, bd) = kp e (P.1, P.2.1, P.2.2)) := lh (by unfold kSub; rw [hP]);rw [HR.out];clear hP hx hy;generalize hK : kp e (P.1, P.2.1, P.2.2) = K;have HK := lh hK;clear hK
 go_enter Tryz.func65, Tryz.ntmps65
 go_wp2_with (first
  | (go_at_call 32; (with_reducible refine (HC.out _).mono ?_); rintro x w1 ⟨rfl, hb1⟩; have k0 : Below w.heap.size w w1 := (((below_new w (.cells #[.int .i64 an, .int .i64 ad] 29)).alloc (by simp) (.cells #[.int .i64 bn, .int .i64 bd] 29)).alloc (by simp <;> omega) (.cells #[.int .i64 0, .int .i64 0] 29)).trans (hb1.mono (by simp <;> omega)); have q0 : w1.cell? ⟨w.heap.size + 1 + 1, 0, none⟩ = some (.int .i64 0) := (hb1.cell (p := ⟨w.heap.size + 1 + 1, 0, none⟩) (by simp <;> omega)).trans (by simp [go_sem]); have q1 : w1.cell? ⟨w.heap.size + 1 + 1, 1, none⟩ = some (.int .i64 0) := (hb1.cell (p := ⟨w.heap.size + 1 + 1, 1, none⟩) (by simp <;> omega)).trans (by simp [go_sem]); have q2 : w1.frozen? ⟨w.heap.size + 1 + 1, 0, none⟩ = false := (hb1.frozen (p := ⟨w.heap.size + 1 + 1, 0, none⟩) (by simp <;> omega)).trans (by simp [go_sem]); have q3 : w1.frozen? ⟨w.heap.size + 1 + 1, 1, none⟩ = false := (hb1.frozen (p := ⟨w.heap.size + 1 + 1, 1, none⟩) (by simp <;> omega)).trans (by simp [go_sem]); have q4 : w.heap.size + 1 + 1 < w1.heap.size := wl q0)
  | (go_at_call 108; (with_reducible refine (qkeep_any b e P.1 P.2.1 P.2.2 _ ((k0.cell (p := ⟨b, 0, none⟩) hb).trans hc) ((k0.frozen (p := ⟨b, 0, none⟩) hb).trans hf)).mono ?_); rintro x w2 ⟨rfl, hs2⟩; rw [HK.out] at hs2 ⊢; have r0 := (hs2.other (p := ⟨w.heap.size + 1 + 1, 0, none⟩) q4 (by simp <;> omega)).trans q0; have r1 := (hs2.other (p := ⟨w.heap.size + 1 + 1, 1, none⟩) q4 (by simp <;> omega)).trans q1; have r2 := (hs2.otherF (p := ⟨w.heap.size + 1 + 1, 0, none⟩) q4 (by simp <;> omega)).trans q2; have r3 := (hs2.otherF (p := ⟨w.heap.size + 1 + 1, 1, none⟩) q4 (by simp <;> omega)).trans q3))
 have l0 := (two_cells (v0 := .int .i64 K.1.1) (v1 := .int .i64 K.1.2) r0 r1).1;have l1 := (two_cells (v0 := .int .i64 K.1.1) (v1 := .int .i64 K.1.2) r0 r1).2;refine bodyPost_ret (v := .agg #[.int .i64 K.1.1, .int .i64 K.1.2]) (by simp [results, Tryz.results65, go_sem, l0, l1]) rfl ⟨rfl, ?_⟩;exact ((Sm.from k0 hb hs2).setCell (p := ⟨w.heap.size + 1 + 1, 0, none⟩) (by simp <;> omega) hb _).setCell (p := ⟨w.heap.size + 1 + 1, 1, none⟩) (by simp <;> omega) hb _
theorem kmul_any (b : Nat) (e : Int) (x y : Int × Int) (hx : vF x = true) (hy : vF y = true) (w : World) (hc : w.cell? ⟨b, 0, none⟩ = some (.int .i64 e)) (hf : w.frozen? ⟨b, 0, none⟩ = false) :
  Calls Tryz.prog 107 #[.pointer (some ⟨b, 0, none⟩), .agg #[.int .i64 x.1, .int .i64 x.2], .agg #[.int .i64 y.1, .int .i64 y.2]] w fun z w' => z = .returned (.agg #[.int .i64 (kMul e x y).1.1, .int .i64 (kMul e x y).1.2]) ∧ Sm b (kMul e x y).2 w w' := by
 obtain ⟨an, ad⟩ := x;obtain ⟨bn, bd⟩ := y;have hb : b < w.heap.size := wl hc;obtain ⟨P, hP⟩ := nm (mulP an ad bn bd)
 have HC : Hid (∀ w : World, Calls Tryz.prog 28 #[.agg #[.int .i64 an, .int .i64 ad], .agg #[.int .i64 bn, .int .i64 bd]] w fun e w' => e = .returned (.tuple #[.agg #[.int .i64 P.1, .int .i64 P.2.1], .int .i64 P.2.2]) ∧ Below w.heap.size w w') := lh fun w => by
  have := mul_any an ad bn bd hx hy w
  rwa [hP] at this
 have HR : Hid (kMul e (an, ad) (bn, bd) = kp e (P.1, P.2.1, P.2.2)) := lh (by unfold kMul; rw [hP]);rw [HR.out];clear hP hx hy;generalize hK : kp e (P.1, P.2.1, P.2.2) = K;have HK := lh hK;clear hK
 go_enter Tryz.func107, Tryz.ntmps107
 go_wp2_with (first
  | (go_at_call 28; (with_reducible refine (HC.out _).mono ?_); rintro x w1 ⟨rfl, hb1⟩; have k0 : Below w.heap.size w w1 := (((below_new w (.cells #[.int .i64 an, .int .i64 ad] 29)).alloc (by simp) (.cells #[.int .i64 bn, .int .i64 bd] 29)).alloc (by simp <;> omega) (.cells #[.int .i64 0, .int .i64 0] 29)).trans (hb1.mono (by simp <;> omega)); have q0 : w1.cell? ⟨w.heap.size + 1 + 1, 0, none⟩ = some (.int .i64 0) := (hb1.cell (p := ⟨w.heap.size + 1 + 1, 0, none⟩) (by simp <;> omega)).trans (by simp [go_sem]); have q1 : w1.cell? ⟨w.heap.size + 1 + 1, 1, none⟩ = some (.int .i64 0) := (hb1.cell (p := ⟨w.heap.size + 1 + 1, 1, none⟩) (by simp <;> omega)).trans (by simp [go_sem]); have q2 : w1.frozen? ⟨w.heap.size + 1 + 1, 0, none⟩ = false := (hb1.frozen (p := ⟨w.heap.size + 1 + 1, 0, none⟩) (by simp <;> omega)).trans (by simp [go_sem]); have q3 : w1.frozen? ⟨w.heap.size + 1 + 1, 1, none⟩ = false := (hb1.frozen (p := ⟨w.heap.size + 1 + 1, 1, none⟩) (by simp <;> omega)).trans (by simp [go_sem]); have q4 : w.heap.size + 1 + 1 < w1.heap.size := wl q0)
  | (go_at_call 108; (with_reducible refine (qkeep_any b e P.1 P.2.1 P.2.2 _ ((k0.cell (p := ⟨b, 0, none⟩) hb).trans hc) ((k0.frozen (p := ⟨b, 0, none⟩) hb).trans hf)).mono ?_); rintro x w2 ⟨rfl, hs2⟩; rw [HK.out] at hs2 ⊢; have r0 := (hs2.other (p := ⟨w.heap.size + 1 + 1, 0, none⟩) q4 (by simp <;> omega)).trans q0; have r1 := (hs2.other (p := ⟨w.heap.size + 1 + 1, 1, none⟩) q4 (by simp <;> omega)).trans q1; have r2 := (hs2.otherF (p := ⟨w.heap.size + 1 + 1, 0, none⟩) q4 (by simp <;> omega)).trans q2; have r3 := (hs2.otherF (p := ⟨w.heap.size + 1 + 1, 1, none⟩) q4 (by simp <;> omega)).trans q3))
 have l0 := (two_cells (v0 := .int .i64 K.1.1) (v1 := .int .i64 K.1.2) r0 r1).1;have l1 := (two_cells (v0 := .int .i64 K.1.1) (v1 := .int .i64 K.1.2) r0 r1).2;refine bodyPost_ret (v := .agg #[.int .i64 K.1.1, .int .i64 K.1.2]) (by simp [results, Tryz.results107, go_sem, l0, l1]) rfl ⟨rfl, ?_⟩;exact ((Sm.from k0 hb hs2).setCell (p := ⟨w.heap.size + 1 + 1, 0, none⟩) (by simp <;> omega) hb _).setCell (p := ⟨w.heap.size + 1 + 1, 1, none⟩) (by simp <;> omega) hb _
theorem qvalue_any (b : Nat) (e : Int) (F A B C u : Int × Int) (vA : vF A = true) (vB : vF B = true) (vC : vF C = true) (vu : vF u = true) (w : World) (hc : w.cell? ⟨b, 0, none⟩ = some (.int .i64 e)) (hf : w.frozen? ⟨b, 0, none⟩ = false) :
  Calls Tryz.prog 64 #[.pointer (some ⟨b, 0, none⟩), .agg #[.int .i64 F.1, .int .i64 F.2, .int .i64 A.1, .int .i64 A.2, .int .i64 B.1, .int .i64 B.2, .int .i64 C.1, .int .i64 C.2], .agg #[.int .i64 u.1, .int .i64 u.2]] w fun z w' => z = .returned (.agg #[.int .i64 (kVal e A B C u).1.1, .int .i64 (kVal e A B C u).1.2]) ∧ Sm b (kVal e A B C u).2 w w' := by
 have hb : b < w.heap.size := wl hc;obtain ⟨K1, hK1⟩ := nm (kMul e C u);have vK1 : vF K1.1 = true := by rw [← hK1]; exact kMul_valid vC vu
 have HK1 : Hid (∀ w : World, w.cell? ⟨b, 0, none⟩ = some (.int .i64 e) → w.frozen? ⟨b, 0, none⟩ = false → Calls Tryz.prog 107 #[.pointer (some ⟨b, 0, none⟩), .agg #[.int .i64 C.1, .int .i64 C.2], .agg #[.int .i64 u.1, .int .i64 u.2]] w fun z w' => z = .returned (.agg #[.int .i64 K1.1.1, .int .i64 K1.1.2]) ∧ Sm b K1.2 w w') := lh fun w h0 h1 => by
  have := kmul_any b e C u vC vu w h0 h1
  rwa [hK1] at this
 obtain ⟨K2, hK2⟩ := nm (kAdd K1.2 B K1.1);have vK2 : vF K2.1 = true := by rw [← hK2]; exact kAdd_valid vB vK1
 have HK2 : Hid (∀ w : World, w.cell? ⟨b, 0, none⟩ = some (.int .i64 K1.2) → w.frozen? ⟨b, 0, none⟩ = false → Calls Tryz.prog 106 #[.pointer (some ⟨b, 0, none⟩), .agg #[.int .i64 B.1, .int .i64 B.2], .agg #[.int .i64 K1.1.1, .int .i64 K1.1.2]] w fun z w' => z = .returned (.agg #[.int .i64 K2.1.1, .int .i64 K2.1.2]) ∧ Sm b K2.2 w w') := lh fun w h0 h1 => by
  have := kadd_any b K1.2 B K1.1 vB vK1 w h0 h1
  rwa [hK2] at this
 obtain ⟨K3, hK3⟩ := nm (kMul K2.2 K2.1 u);have vK3 : vF K3.1 = true := by rw [← hK3]; exact kMul_valid vK2 vu
 have HK3 : Hid (∀ w : World, w.cell? ⟨b, 0, none⟩ = some (.int .i64 K2.2) → w.frozen? ⟨b, 0, none⟩ = false → Calls Tryz.prog 107 #[.pointer (some ⟨b, 0, none⟩), .agg #[.int .i64 K2.1.1, .int .i64 K2.1.2], .agg #[.int .i64 u.1, .int .i64 u.2]] w fun z w' => z = .returned (.agg #[.int .i64 K3.1.1, .int .i64 K3.1.2]) ∧ Sm b K3.2 w w') := lh fun w h0 h1 => by
  have := kmul_any b K2.2 K2.1 u vK2 vu w h0 h1
  rwa [hK3] at this
 obtain ⟨K4, hK4⟩ := nm (kAdd K3.2 A K3.1);have vK4 : vF K4.1 = true := by rw [← hK4]; exact kAdd_valid vA vK3
 have HK4 : Hid (∀ w : World, w.cell? ⟨b, 0, none⟩ = some (.int .i64 K3.2) → w.frozen? ⟨b, 0, none⟩ = false → Calls Tryz.prog 106 #[.pointer (some ⟨b, 0, none⟩), .agg #[.int .i64 A.1, .int .i64 A.2], .agg #[.int .i64 K3.1.1, .int .i64 K3.1.2]] w fun z w' => z = .returned (.agg #[.int .i64 K4.1.1, .int .i64 K4.1.2]) ∧ Sm b K4.2 w w') := lh fun w h0 h1 => by
  have := kadd_any b K3.2 A K3.1 vA vK3 w h0 h1
  rwa [hK4] at this
 have HR : Hid (kVal e A B C u = K4) := lh (by
  unfold kVal;simp only [hK1, hK2, hK3, hK4])
 rw [HR.out];clear hK1 vK1 hK2 vK2 hK3 vK3 hK4 vK4 vB vC vu vA
 go_enter Tryz.func64, Tryz.ntmps64
 go_upto_region 1 with (fail)
 have hW0 : Below w.heap.size w (((w.alloc (.cells #[.int .i64 F.1, .int .i64 F.2, .int .i64 A.1, .int .i64 A.2, .int .i64 B.1, .int .i64 B.2, .int .i64 C.1, .int .i64 C.2] 81)).alloc (.cells #[.int .i64 u.1, .int .i64 u.2] 29)).alloc (.cells #[.int .i64 0, .int .i64 0] 29)) := ((below_new _ _).alloc (by simp) _).alloc (by simp <;> omega) _;have hz : w.heap.size + 1 + 1 < (((w.alloc (.cells #[.int .i64 F.1, .int .i64 F.2, .int .i64 A.1, .int .i64 A.2, .int .i64 B.1, .int .i64 B.2, .int .i64 C.1, .int .i64 C.2] 81)).alloc (.cells #[.int .i64 u.1, .int .i64 u.2] 29)).alloc (.cells #[.int .i64 0, .int .i64 0] 29)).heap.size := by simp
 have k0 : (((w.alloc (.cells #[.int .i64 F.1, .int .i64 F.2, .int .i64 A.1, .int .i64 A.2, .int .i64 B.1, .int .i64 B.2, .int .i64 C.1, .int .i64 C.2] 81)).alloc (.cells #[.int .i64 u.1, .int .i64 u.2] 29)).alloc (.cells #[.int .i64 0, .int .i64 0] 29)).cell? ⟨w.heap.size, 2, none⟩ = some (.int .i64 A.1) := by simp [go_sem, World.cell?_alloc_past]
 have k1 : (((w.alloc (.cells #[.int .i64 F.1, .int .i64 F.2, .int .i64 A.1, .int .i64 A.2, .int .i64 B.1, .int .i64 B.2, .int .i64 C.1, .int .i64 C.2] 81)).alloc (.cells #[.int .i64 u.1, .int .i64 u.2] 29)).alloc (.cells #[.int .i64 0, .int .i64 0] 29)).cell? ⟨w.heap.size, 3, none⟩ = some (.int .i64 A.2) := by simp [go_sem, World.cell?_alloc_past]
 have k2 : (((w.alloc (.cells #[.int .i64 F.1, .int .i64 F.2, .int .i64 A.1, .int .i64 A.2, .int .i64 B.1, .int .i64 B.2, .int .i64 C.1, .int .i64 C.2] 81)).alloc (.cells #[.int .i64 u.1, .int .i64 u.2] 29)).alloc (.cells #[.int .i64 0, .int .i64 0] 29)).cell? ⟨w.heap.size, 4, none⟩ = some (.int .i64 B.1) := by simp [go_sem, World.cell?_alloc_past]
 have k3 : (((w.alloc (.cells #[.int .i64 F.1, .int .i64 F.2, .int .i64 A.1, .int .i64 A.2, .int .i64 B.1, .int .i64 B.2, .int .i64 C.1, .int .i64 C.2] 81)).alloc (.cells #[.int .i64 u.1, .int .i64 u.2] 29)).alloc (.cells #[.int .i64 0, .int .i64 0] 29)).cell? ⟨w.heap.size, 5, none⟩ = some (.int .i64 B.2) := by simp [go_sem, World.cell?_alloc_past]
 have k4 : (((w.alloc (.cells #[.int .i64 F.1, .int .i64 F.2, .int .i64 A.1, .int .i64 A.2, .int .i64 B.1, .int .i64 B.2, .int .i64 C.1, .int .i64 C.2] 81)).alloc (.cells #[.int .i64 u.1, .int .i64 u.2] 29)).alloc (.cells #[.int .i64 0, .int .i64 0] 29)).cell? ⟨w.heap.size, 6, none⟩ = some (.int .i64 C.1) := by simp [go_sem, World.cell?_alloc_past]
 have k5 : (((w.alloc (.cells #[.int .i64 F.1, .int .i64 F.2, .int .i64 A.1, .int .i64 A.2, .int .i64 B.1, .int .i64 B.2, .int .i64 C.1, .int .i64 C.2] 81)).alloc (.cells #[.int .i64 u.1, .int .i64 u.2] 29)).alloc (.cells #[.int .i64 0, .int .i64 0] 29)).cell? ⟨w.heap.size, 7, none⟩ = some (.int .i64 C.2) := by simp [go_sem, World.cell?_alloc_past]
 have k6 : (((w.alloc (.cells #[.int .i64 F.1, .int .i64 F.2, .int .i64 A.1, .int .i64 A.2, .int .i64 B.1, .int .i64 B.2, .int .i64 C.1, .int .i64 C.2] 81)).alloc (.cells #[.int .i64 u.1, .int .i64 u.2] 29)).alloc (.cells #[.int .i64 0, .int .i64 0] 29)).cell? ⟨w.heap.size + 1, 0, none⟩ = some (.int .i64 u.1) := by simp [go_sem]
 have k7 : (((w.alloc (.cells #[.int .i64 F.1, .int .i64 F.2, .int .i64 A.1, .int .i64 A.2, .int .i64 B.1, .int .i64 B.2, .int .i64 C.1, .int .i64 C.2] 81)).alloc (.cells #[.int .i64 u.1, .int .i64 u.2] 29)).alloc (.cells #[.int .i64 0, .int .i64 0] 29)).cell? ⟨w.heap.size + 1, 1, none⟩ = some (.int .i64 u.2) := by simp [go_sem]
 have k8 : (((w.alloc (.cells #[.int .i64 F.1, .int .i64 F.2, .int .i64 A.1, .int .i64 A.2, .int .i64 B.1, .int .i64 B.2, .int .i64 C.1, .int .i64 C.2] 81)).alloc (.cells #[.int .i64 u.1, .int .i64 u.2] 29)).alloc (.cells #[.int .i64 0, .int .i64 0] 29)).cell? ⟨w.heap.size + 1 + 1, 0, none⟩ = some (.int .i64 0) := by simp [go_sem]
 have k9 : (((w.alloc (.cells #[.int .i64 F.1, .int .i64 F.2, .int .i64 A.1, .int .i64 A.2, .int .i64 B.1, .int .i64 B.2, .int .i64 C.1, .int .i64 C.2] 81)).alloc (.cells #[.int .i64 u.1, .int .i64 u.2] 29)).alloc (.cells #[.int .i64 0, .int .i64 0] 29)).cell? ⟨w.heap.size + 1 + 1, 1, none⟩ = some (.int .i64 0) := by simp [go_sem]
 have f0 : (((w.alloc (.cells #[.int .i64 F.1, .int .i64 F.2, .int .i64 A.1, .int .i64 A.2, .int .i64 B.1, .int .i64 B.2, .int .i64 C.1, .int .i64 C.2] 81)).alloc (.cells #[.int .i64 u.1, .int .i64 u.2] 29)).alloc (.cells #[.int .i64 0, .int .i64 0] 29)).frozen? ⟨w.heap.size + 1 + 1, 0, none⟩ = false := by simp [go_sem]
 have f1 : (((w.alloc (.cells #[.int .i64 F.1, .int .i64 F.2, .int .i64 A.1, .int .i64 A.2, .int .i64 B.1, .int .i64 B.2, .int .i64 C.1, .int .i64 C.2] 81)).alloc (.cells #[.int .i64 u.1, .int .i64 u.2] 29)).alloc (.cells #[.int .i64 0, .int .i64 0] 29)).frozen? ⟨w.heap.size + 1 + 1, 1, none⟩ = false := by simp [go_sem]
 have hs0 := Sm.of hW0 hc hf;have hc0 := hs0.cell;have hf0 := hs0.free;generalize (((w.alloc (.cells #[.int .i64 F.1, .int .i64 F.2, .int .i64 A.1, .int .i64 A.2, .int .i64 B.1, .int .i64 B.2, .int .i64 C.1, .int .i64 C.2] 81)).alloc (.cells #[.int .i64 u.1, .int .i64 u.2] 29)).alloc (.cells #[.int .i64 0, .int .i64 0] 29)) = W0 at *
 have HX : Hid (∀ x w', Sm b x W0 w' → w.heap.size ≤ w'.heap.size ∧ w'.cell? ⟨w.heap.size, 2, none⟩ = some (.int .i64 A.1) ∧ w'.cell? ⟨w.heap.size, 3, none⟩ = some (.int .i64 A.2) ∧ w'.cell? ⟨w.heap.size, 4, none⟩ = some (.int .i64 B.1) ∧ w'.cell? ⟨w.heap.size, 5, none⟩ = some (.int .i64 B.2) ∧ w'.cell? ⟨w.heap.size, 6, none⟩ = some (.int .i64 C.1) ∧ w'.cell? ⟨w.heap.size, 7, none⟩ = some (.int .i64 C.2) ∧ w'.cell? ⟨w.heap.size + 1, 0, none⟩ = some (.int .i64 u.1) ∧ w'.cell? ⟨w.heap.size + 1, 1, none⟩ = some (.int .i64 u.2)) := lh fun x w' h =>
  ⟨Nat.le_trans hW0.size h.size, (h.other (p := ⟨w.heap.size, 2, none⟩) (by simp <;> omega) (by simp <;> omega)).trans k0, (h.other (p := ⟨w.heap.size, 3, none⟩) (by simp <;> omega) (by simp <;> omega)).trans k1, (h.other (p := ⟨w.heap.size, 4, none⟩) (by simp <;> omega) (by simp <;> omega)).trans k2, (h.other (p := ⟨w.heap.size, 5, none⟩) (by simp <;> omega) (by simp <;> omega)).trans k3, (h.other (p := ⟨w.heap.size, 6, none⟩) (by simp <;> omega) (by simp <;> omega)).trans k4, (h.other (p := ⟨w.heap.size, 7, none⟩) (by simp <;> omega) (by simp <;> omega)).trans k5, (h.other (p := ⟨w.heap.size + 1, 0, none⟩) (by simp <;> omega) (by simp <;> omega)).trans k6, (h.other (p := ⟨w.heap.size + 1, 1, none⟩) (by simp <;> omega) (by simp <;> omega)).trans k7⟩
 have HY : Hid (∀ x w', Sm b x W0 w' → w'.cell? ⟨w.heap.size + 1 + 1, 0, none⟩ = some (.int .i64 0) ∧ w'.cell? ⟨w.heap.size + 1 + 1, 1, none⟩ = some (.int .i64 0) ∧ w'.frozen? ⟨w.heap.size + 1 + 1, 0, none⟩ = false ∧ w'.frozen? ⟨w.heap.size + 1 + 1, 1, none⟩ = false) := lh fun x w' h =>
  ⟨(h.other (p := ⟨w.heap.size + 1 + 1, 0, none⟩) (by simp <;> omega) (by simp <;> omega)).trans k8, (h.other (p := ⟨w.heap.size + 1 + 1, 1, none⟩) (by simp <;> omega) (by simp <;> omega)).trans k9, (h.otherF (p := ⟨w.heap.size + 1 + 1, 0, none⟩) (by simp <;> omega) (by simp <;> omega)).trans f0, (h.otherF (p := ⟨w.heap.size + 1 + 1, 1, none⟩) (by simp <;> omega) (by simp <;> omega)).trans f1⟩
 have hbz : b < W0.heap.size := by omega
 have HZ : Hid (∀ x w', Sm b x W0 w' → ∀ v0 v1, (fun w' => w.heap.size ≤ w'.heap.size ∧ w'.cell? ⟨w.heap.size, 2, none⟩ = some (.int .i64 A.1) ∧ w'.cell? ⟨w.heap.size, 3, none⟩ = some (.int .i64 A.2) ∧ w'.cell? ⟨w.heap.size, 4, none⟩ = some (.int .i64 B.1) ∧ w'.cell? ⟨w.heap.size, 5, none⟩ = some (.int .i64 B.2) ∧ w'.cell? ⟨w.heap.size, 6, none⟩ = some (.int .i64 C.1) ∧ w'.cell? ⟨w.heap.size, 7, none⟩ = some (.int .i64 C.2) ∧ w'.cell? ⟨w.heap.size + 1, 0, none⟩ = some (.int .i64 u.1) ∧ w'.cell? ⟨w.heap.size + 1, 1, none⟩ = some (.int .i64 u.2)) ((w'.setCell ⟨w.heap.size + 1 + 1, 0, none⟩ v0).setCell ⟨w.heap.size + 1 + 1, 1, none⟩ v1)) := lh fun x w' h v0 v1 => by
  obtain ⟨h0, h1, h2, h3, h4, h5, h6, h7, h8⟩ := HX.out x w' h;refine ⟨by simpa using h0, ?_, ?_, ?_, ?_, ?_, ?_, ?_, ?_⟩
  all_goals (refine (two_other (by omega) _ _ _).trans ?_; assumption)
 have hsd : Sm b e W0 W0.drew := (Sm.refl hc0 hf0).drew;clear hc hf hc0 hf0 hs0 f0 f1 k0 k1 k2 k3 k4 k5 k6 k7 k8 k9;refine wp_region_held_drew (S := (fun w' => w.heap.size ≤ w'.heap.size ∧ w'.cell? ⟨w.heap.size, 2, none⟩ = some (.int .i64 A.1) ∧ w'.cell? ⟨w.heap.size, 3, none⟩ = some (.int .i64 A.2) ∧ w'.cell? ⟨w.heap.size, 4, none⟩ = some (.int .i64 B.1) ∧ w'.cell? ⟨w.heap.size, 5, none⟩ = some (.int .i64 B.2) ∧ w'.cell? ⟨w.heap.size, 6, none⟩ = some (.int .i64 C.1) ∧ w'.cell? ⟨w.heap.size, 7, none⟩ = some (.int .i64 C.2) ∧ w'.cell? ⟨w.heap.size + 1, 0, none⟩ = some (.int .i64 u.1) ∧ w'.cell? ⟨w.heap.size + 1, 1, none⟩ = some (.int .i64 u.2))) (by kernel_rfl) (HX.out _ _ hsd) (fun hHeld => ?_);refine tkB 0 ?_;simp only [Act.put, s_1, s_2, s_3, s_4, s_6];refine tkB 1 ?_;simp only [Act.put, s_1, s_2, s_3, s_4, s_5, s_6];refine tkB 2 ?_;simp only [Act.put, s_1, s_2, s_3, s_4, s_5, s_6];refine tkB 3 ?_;simp only [Act.put, s_1, s_2, s_3, s_4, s_5, s_6];refine tkB 4 ?_;simp only [Act.put, s_1, s_2, s_3, s_4, s_5, s_6];refine tkB 5 ?_;simp only [Act.put, s_1, s_2, s_3, s_4, s_5, s_6];refine tkB 6 ?_;simp only [Act.put, s_1, s_2, s_3, s_4, s_5, s_6];refine tkB 7 ?_;simp only [Act.put, s_1, s_2, s_3, s_4, s_5, s_6];refine tkB 8 ?_;simp only [Act.put, s_1, s_2, s_3, s_4, s_5, s_6];refine tkB 9 ?_;simp only [Act.put, s_1, s_2, s_3, s_4, s_5, s_6];refine tkB 10 ?_;simp only [Act.put, s_1, s_2, s_3, s_4, s_5, s_6];refine tkB 13 ?_;simp only [Act.put, s_1, s_2, s_3, s_4, s_5, s_6];refine r1 11 (fun K hK => ?_)
 try simp only [s_4, s_5, s_6]
 go_simp
 (go_at_call 107; go_split_ands; (with_reducible refine (HK1.out _ hsd.cell hsd.free).mono ?_); rintro z w1 ⟨rfl, ht1⟩; have hs1 := hsd.trans ht1)
 go_wp2_with fail
 refine hK.out _ _ (HX.out _ _ hs1) (fun hHeld => ?_);clear hK K
 try simp only [Act.put, s_1, s_2, s_3, s_4, s_5, s_6]
 refine r1 12 (fun K hK => ?_)
 try simp only [s_4, s_5, s_6]
 go_simp
 (go_at_call 106; go_split_ands; (with_reducible refine (HK2.out _ hs1.cell hs1.free).mono ?_); rintro z w2 ⟨rfl, ht2⟩; have hs2 := hs1.trans ht2)
 go_wp2_with fail
 refine hK.out _ _ (HX.out _ _ hs2) (fun hHeld => ?_);clear hK K
 try simp only [Act.put, s_1, s_2, s_3, s_4, s_5, s_6]
 refine r1 14 (fun K hK => ?_)
 try simp only [s_4, s_5, s_6]
 go_simp
 (go_at_call 107; go_split_ands; (with_reducible refine (HK3.out _ hs2.cell hs2.free).mono ?_); rintro z w3 ⟨rfl, ht3⟩; have hs3 := hs2.trans ht3)
 go_wp2_with fail
 refine hK.out _ _ (HX.out _ _ hs3) (fun hHeld => ?_);clear hK K
 try simp only [Act.put, s_1, s_2, s_3, s_4, s_5, s_6]
 refine r1 15 (fun K hK => ?_)
 try simp only [s_4, s_5, s_6]
 go_simp
 (go_at_call 106; go_split_ands; (with_reducible refine (HK4.out _ hs3.cell hs3.free).mono ?_); rintro z w4 ⟨rfl, ht4⟩; have hs4 := hs3.trans ht4)
 go_wp2_with fail
 refine hK.out _ _ (HX.out _ _ hs4) (fun hHeld => ?_);clear hK K
 try simp only [Act.put, s_1, s_2, s_3, s_4, s_5, s_6]
 refine r1 16 (fun K hK => ?_);go_split_ands;obtain ⟨g0, g1, g2, g3⟩ := HY.out _ _ hs4
 try simp only [s_4, s_5, s_6]
 go_wp2_with fail
 skip
 refine hK.out _ _ (HZ.out _ _ hs4 _ _) (fun hHeld => ?_);clear hK K
 try simp only [Act.put, s_1, s_2, s_3, s_4, s_5, s_6]
 refine wpAnyH_done (by kernel_rfl) ?_ _
 go_wp2_with fail
 have l0 := (two_cells (v0 := .int .i64 K4.1.1) (v1 := .int .i64 K4.1.2) g0 g1).1;have l1 := (two_cells (v0 := .int .i64 K4.1.1) (v1 := .int .i64 K4.1.2) g0 g1).2;refine bodyPost_ret (v := .agg #[.int .i64 K4.1.1, .int .i64 K4.1.2]) (by simp [results, Tryz.results64, go_sem, l0, l1]) rfl ⟨rfl, ?_⟩;exact ((Sm.from hW0 hb hs4).setCell (p := ⟨w.heap.size + 1 + 1, 0, none⟩) (by simp <;> omega) hb _).setCell (p := ⟨w.heap.size + 1 + 1, 1, none⟩) (by simp <;> omega) hb _
theorem qslope_any (b : Nat) (e : Int) (F A B C u : Int × Int) (vB : vF B = true) (vC : vF C = true) (vu : vF u = true) (w : World) (hc : w.cell? ⟨b, 0, none⟩ = some (.int .i64 e)) (hf : w.frozen? ⟨b, 0, none⟩ = false) :
  Calls Tryz.prog 67 #[.pointer (some ⟨b, 0, none⟩), .agg #[.int .i64 F.1, .int .i64 F.2, .int .i64 A.1, .int .i64 A.2, .int .i64 B.1, .int .i64 B.2, .int .i64 C.1, .int .i64 C.2], .agg #[.int .i64 u.1, .int .i64 u.2]] w fun z w' => z = .returned (.agg #[.int .i64 (kSlope e B C u).1.1, .int .i64 (kSlope e B C u).1.2]) ∧ Sm b (kSlope e B C u).2 w w' := by
 have hb : b < w.heap.size := wl hc;obtain ⟨K1, hK1⟩ := nm (kMul e C u);have vK1 : vF K1.1 = true := by rw [← hK1]; exact kMul_valid vC vu
 have HK1 : Hid (∀ w : World, w.cell? ⟨b, 0, none⟩ = some (.int .i64 e) → w.frozen? ⟨b, 0, none⟩ = false → Calls Tryz.prog 107 #[.pointer (some ⟨b, 0, none⟩), .agg #[.int .i64 C.1, .int .i64 C.2], .agg #[.int .i64 u.1, .int .i64 u.2]] w fun z w' => z = .returned (.agg #[.int .i64 K1.1.1, .int .i64 K1.1.2]) ∧ Sm b K1.2 w w') := lh fun w h0 h1 => by
  have := kmul_any b e C u vC vu w h0 h1
  rwa [hK1] at this
 obtain ⟨K2, hK2⟩ := nm (kMul K1.2 (2, 1) K1.1);have vK2 : vF K2.1 = true := by rw [← hK2]; exact kMul_valid vF_two vK1
 have HK2 : Hid (∀ w : World, w.cell? ⟨b, 0, none⟩ = some (.int .i64 K1.2) → w.frozen? ⟨b, 0, none⟩ = false → Calls Tryz.prog 107 #[.pointer (some ⟨b, 0, none⟩), .agg #[.int .i64 (2, 1).1, .int .i64 (2, 1).2], .agg #[.int .i64 K1.1.1, .int .i64 K1.1.2]] w fun z w' => z = .returned (.agg #[.int .i64 K2.1.1, .int .i64 K2.1.2]) ∧ Sm b K2.2 w w') := lh fun w h0 h1 => by
  have := kmul_any b K1.2 (2, 1) K1.1 vF_two vK1 w h0 h1
  rwa [hK2] at this
 obtain ⟨K3, hK3⟩ := nm (kAdd K2.2 B K2.1);have vK3 : vF K3.1 = true := by rw [← hK3]; exact kAdd_valid vB vK2
 have HK3 : Hid (∀ w : World, w.cell? ⟨b, 0, none⟩ = some (.int .i64 K2.2) → w.frozen? ⟨b, 0, none⟩ = false → Calls Tryz.prog 106 #[.pointer (some ⟨b, 0, none⟩), .agg #[.int .i64 B.1, .int .i64 B.2], .agg #[.int .i64 K2.1.1, .int .i64 K2.1.2]] w fun z w' => z = .returned (.agg #[.int .i64 K3.1.1, .int .i64 K3.1.2]) ∧ Sm b K3.2 w w') := lh fun w h0 h1 => by
  have := kadd_any b K2.2 B K2.1 vB vK2 w h0 h1
  rwa [hK3] at this
 have HR : Hid (kSlope e B C u = K3) := lh (by
  unfold kSlope;simp only [hK1, hK2, hK3])
 rw [HR.out];clear hK1 vK1 hK2 vK2 hK3 vK3 vB vC vu
 go_enter Tryz.func67, Tryz.ntmps67
 go_upto_region 1 with (fail)
 have hW0 : Below w.heap.size w (((w.alloc (.cells #[.int .i64 F.1, .int .i64 F.2, .int .i64 A.1, .int .i64 A.2, .int .i64 B.1, .int .i64 B.2, .int .i64 C.1, .int .i64 C.2] 81)).alloc (.cells #[.int .i64 u.1, .int .i64 u.2] 29)).alloc (.cells #[.int .i64 0, .int .i64 0] 29)) := ((below_new _ _).alloc (by simp) _).alloc (by simp <;> omega) _;have hz : w.heap.size + 1 + 1 < (((w.alloc (.cells #[.int .i64 F.1, .int .i64 F.2, .int .i64 A.1, .int .i64 A.2, .int .i64 B.1, .int .i64 B.2, .int .i64 C.1, .int .i64 C.2] 81)).alloc (.cells #[.int .i64 u.1, .int .i64 u.2] 29)).alloc (.cells #[.int .i64 0, .int .i64 0] 29)).heap.size := by simp
 have k0 : (((w.alloc (.cells #[.int .i64 F.1, .int .i64 F.2, .int .i64 A.1, .int .i64 A.2, .int .i64 B.1, .int .i64 B.2, .int .i64 C.1, .int .i64 C.2] 81)).alloc (.cells #[.int .i64 u.1, .int .i64 u.2] 29)).alloc (.cells #[.int .i64 0, .int .i64 0] 29)).cell? ⟨w.heap.size, 2, none⟩ = some (.int .i64 A.1) := by simp [go_sem, World.cell?_alloc_past]
 have k1 : (((w.alloc (.cells #[.int .i64 F.1, .int .i64 F.2, .int .i64 A.1, .int .i64 A.2, .int .i64 B.1, .int .i64 B.2, .int .i64 C.1, .int .i64 C.2] 81)).alloc (.cells #[.int .i64 u.1, .int .i64 u.2] 29)).alloc (.cells #[.int .i64 0, .int .i64 0] 29)).cell? ⟨w.heap.size, 3, none⟩ = some (.int .i64 A.2) := by simp [go_sem, World.cell?_alloc_past]
 have k2 : (((w.alloc (.cells #[.int .i64 F.1, .int .i64 F.2, .int .i64 A.1, .int .i64 A.2, .int .i64 B.1, .int .i64 B.2, .int .i64 C.1, .int .i64 C.2] 81)).alloc (.cells #[.int .i64 u.1, .int .i64 u.2] 29)).alloc (.cells #[.int .i64 0, .int .i64 0] 29)).cell? ⟨w.heap.size, 4, none⟩ = some (.int .i64 B.1) := by simp [go_sem, World.cell?_alloc_past]
 have k3 : (((w.alloc (.cells #[.int .i64 F.1, .int .i64 F.2, .int .i64 A.1, .int .i64 A.2, .int .i64 B.1, .int .i64 B.2, .int .i64 C.1, .int .i64 C.2] 81)).alloc (.cells #[.int .i64 u.1, .int .i64 u.2] 29)).alloc (.cells #[.int .i64 0, .int .i64 0] 29)).cell? ⟨w.heap.size, 5, none⟩ = some (.int .i64 B.2) := by simp [go_sem, World.cell?_alloc_past]
 have k4 : (((w.alloc (.cells #[.int .i64 F.1, .int .i64 F.2, .int .i64 A.1, .int .i64 A.2, .int .i64 B.1, .int .i64 B.2, .int .i64 C.1, .int .i64 C.2] 81)).alloc (.cells #[.int .i64 u.1, .int .i64 u.2] 29)).alloc (.cells #[.int .i64 0, .int .i64 0] 29)).cell? ⟨w.heap.size, 6, none⟩ = some (.int .i64 C.1) := by simp [go_sem, World.cell?_alloc_past]
 have k5 : (((w.alloc (.cells #[.int .i64 F.1, .int .i64 F.2, .int .i64 A.1, .int .i64 A.2, .int .i64 B.1, .int .i64 B.2, .int .i64 C.1, .int .i64 C.2] 81)).alloc (.cells #[.int .i64 u.1, .int .i64 u.2] 29)).alloc (.cells #[.int .i64 0, .int .i64 0] 29)).cell? ⟨w.heap.size, 7, none⟩ = some (.int .i64 C.2) := by simp [go_sem, World.cell?_alloc_past]
 have k6 : (((w.alloc (.cells #[.int .i64 F.1, .int .i64 F.2, .int .i64 A.1, .int .i64 A.2, .int .i64 B.1, .int .i64 B.2, .int .i64 C.1, .int .i64 C.2] 81)).alloc (.cells #[.int .i64 u.1, .int .i64 u.2] 29)).alloc (.cells #[.int .i64 0, .int .i64 0] 29)).cell? ⟨w.heap.size + 1, 0, none⟩ = some (.int .i64 u.1) := by simp [go_sem]
 have k7 : (((w.alloc (.cells #[.int .i64 F.1, .int .i64 F.2, .int .i64 A.1, .int .i64 A.2, .int .i64 B.1, .int .i64 B.2, .int .i64 C.1, .int .i64 C.2] 81)).alloc (.cells #[.int .i64 u.1, .int .i64 u.2] 29)).alloc (.cells #[.int .i64 0, .int .i64 0] 29)).cell? ⟨w.heap.size + 1, 1, none⟩ = some (.int .i64 u.2) := by simp [go_sem]
 have k8 : (((w.alloc (.cells #[.int .i64 F.1, .int .i64 F.2, .int .i64 A.1, .int .i64 A.2, .int .i64 B.1, .int .i64 B.2, .int .i64 C.1, .int .i64 C.2] 81)).alloc (.cells #[.int .i64 u.1, .int .i64 u.2] 29)).alloc (.cells #[.int .i64 0, .int .i64 0] 29)).cell? ⟨w.heap.size + 1 + 1, 0, none⟩ = some (.int .i64 0) := by simp [go_sem]
 have k9 : (((w.alloc (.cells #[.int .i64 F.1, .int .i64 F.2, .int .i64 A.1, .int .i64 A.2, .int .i64 B.1, .int .i64 B.2, .int .i64 C.1, .int .i64 C.2] 81)).alloc (.cells #[.int .i64 u.1, .int .i64 u.2] 29)).alloc (.cells #[.int .i64 0, .int .i64 0] 29)).cell? ⟨w.heap.size + 1 + 1, 1, none⟩ = some (.int .i64 0) := by simp [go_sem]
 have f0 : (((w.alloc (.cells #[.int .i64 F.1, .int .i64 F.2, .int .i64 A.1, .int .i64 A.2, .int .i64 B.1, .int .i64 B.2, .int .i64 C.1, .int .i64 C.2] 81)).alloc (.cells #[.int .i64 u.1, .int .i64 u.2] 29)).alloc (.cells #[.int .i64 0, .int .i64 0] 29)).frozen? ⟨w.heap.size + 1 + 1, 0, none⟩ = false := by simp [go_sem]
 have f1 : (((w.alloc (.cells #[.int .i64 F.1, .int .i64 F.2, .int .i64 A.1, .int .i64 A.2, .int .i64 B.1, .int .i64 B.2, .int .i64 C.1, .int .i64 C.2] 81)).alloc (.cells #[.int .i64 u.1, .int .i64 u.2] 29)).alloc (.cells #[.int .i64 0, .int .i64 0] 29)).frozen? ⟨w.heap.size + 1 + 1, 1, none⟩ = false := by simp [go_sem]
 have hs0 := Sm.of hW0 hc hf;have hc0 := hs0.cell;have hf0 := hs0.free;generalize (((w.alloc (.cells #[.int .i64 F.1, .int .i64 F.2, .int .i64 A.1, .int .i64 A.2, .int .i64 B.1, .int .i64 B.2, .int .i64 C.1, .int .i64 C.2] 81)).alloc (.cells #[.int .i64 u.1, .int .i64 u.2] 29)).alloc (.cells #[.int .i64 0, .int .i64 0] 29)) = W0 at *
 have HX : Hid (∀ x w', Sm b x W0 w' → w.heap.size ≤ w'.heap.size ∧ w'.cell? ⟨w.heap.size, 2, none⟩ = some (.int .i64 A.1) ∧ w'.cell? ⟨w.heap.size, 3, none⟩ = some (.int .i64 A.2) ∧ w'.cell? ⟨w.heap.size, 4, none⟩ = some (.int .i64 B.1) ∧ w'.cell? ⟨w.heap.size, 5, none⟩ = some (.int .i64 B.2) ∧ w'.cell? ⟨w.heap.size, 6, none⟩ = some (.int .i64 C.1) ∧ w'.cell? ⟨w.heap.size, 7, none⟩ = some (.int .i64 C.2) ∧ w'.cell? ⟨w.heap.size + 1, 0, none⟩ = some (.int .i64 u.1) ∧ w'.cell? ⟨w.heap.size + 1, 1, none⟩ = some (.int .i64 u.2)) := lh fun x w' h =>
  ⟨Nat.le_trans hW0.size h.size, (h.other (p := ⟨w.heap.size, 2, none⟩) (by simp <;> omega) (by simp <;> omega)).trans k0, (h.other (p := ⟨w.heap.size, 3, none⟩) (by simp <;> omega) (by simp <;> omega)).trans k1, (h.other (p := ⟨w.heap.size, 4, none⟩) (by simp <;> omega) (by simp <;> omega)).trans k2, (h.other (p := ⟨w.heap.size, 5, none⟩) (by simp <;> omega) (by simp <;> omega)).trans k3, (h.other (p := ⟨w.heap.size, 6, none⟩) (by simp <;> omega) (by simp <;> omega)).trans k4, (h.other (p := ⟨w.heap.size, 7, none⟩) (by simp <;> omega) (by simp <;> omega)).trans k5, (h.other (p := ⟨w.heap.size + 1, 0, none⟩) (by simp <;> omega) (by simp <;> omega)).trans k6, (h.other (p := ⟨w.heap.size + 1, 1, none⟩) (by simp <;> omega) (by simp <;> omega)).trans k7⟩
 have HY : Hid (∀ x w', Sm b x W0 w' → w'.cell? ⟨w.heap.size + 1 + 1, 0, none⟩ = some (.int .i64 0) ∧ w'.cell? ⟨w.heap.size + 1 + 1, 1, none⟩ = some (.int .i64 0) ∧ w'.frozen? ⟨w.heap.size + 1 + 1, 0, none⟩ = false ∧ w'.frozen? ⟨w.heap.size + 1 + 1, 1, none⟩ = false) := lh fun x w' h =>
  ⟨(h.other (p := ⟨w.heap.size + 1 + 1, 0, none⟩) (by simp <;> omega) (by simp <;> omega)).trans k8, (h.other (p := ⟨w.heap.size + 1 + 1, 1, none⟩) (by simp <;> omega) (by simp <;> omega)).trans k9, (h.otherF (p := ⟨w.heap.size + 1 + 1, 0, none⟩) (by simp <;> omega) (by simp <;> omega)).trans f0, (h.otherF (p := ⟨w.heap.size + 1 + 1, 1, none⟩) (by simp <;> omega) (by simp <;> omega)).trans f1⟩
 have hbz : b < W0.heap.size := by omega
 have HZ : Hid (∀ x w', Sm b x W0 w' → ∀ v0 v1, (fun w' => w.heap.size ≤ w'.heap.size ∧ w'.cell? ⟨w.heap.size, 2, none⟩ = some (.int .i64 A.1) ∧ w'.cell? ⟨w.heap.size, 3, none⟩ = some (.int .i64 A.2) ∧ w'.cell? ⟨w.heap.size, 4, none⟩ = some (.int .i64 B.1) ∧ w'.cell? ⟨w.heap.size, 5, none⟩ = some (.int .i64 B.2) ∧ w'.cell? ⟨w.heap.size, 6, none⟩ = some (.int .i64 C.1) ∧ w'.cell? ⟨w.heap.size, 7, none⟩ = some (.int .i64 C.2) ∧ w'.cell? ⟨w.heap.size + 1, 0, none⟩ = some (.int .i64 u.1) ∧ w'.cell? ⟨w.heap.size + 1, 1, none⟩ = some (.int .i64 u.2)) ((w'.setCell ⟨w.heap.size + 1 + 1, 0, none⟩ v0).setCell ⟨w.heap.size + 1 + 1, 1, none⟩ v1)) := lh fun x w' h v0 v1 => by
  obtain ⟨h0, h1, h2, h3, h4, h5, h6, h7, h8⟩ := HX.out x w' h;refine ⟨by simpa using h0, ?_, ?_, ?_, ?_, ?_, ?_, ?_, ?_⟩
  all_goals (refine (two_other (by omega) _ _ _).trans ?_; assumption)
 have hsd : Sm b e W0 W0.drew := (Sm.refl hc0 hf0).drew;clear hc hf hc0 hf0 hs0 f0 f1 k0 k1 k2 k3 k4 k5 k6 k7 k8 k9;refine wp_region_held_drew (S := (fun w' => w.heap.size ≤ w'.heap.size ∧ w'.cell? ⟨w.heap.size, 2, none⟩ = some (.int .i64 A.1) ∧ w'.cell? ⟨w.heap.size, 3, none⟩ = some (.int .i64 A.2) ∧ w'.cell? ⟨w.heap.size, 4, none⟩ = some (.int .i64 B.1) ∧ w'.cell? ⟨w.heap.size, 5, none⟩ = some (.int .i64 B.2) ∧ w'.cell? ⟨w.heap.size, 6, none⟩ = some (.int .i64 C.1) ∧ w'.cell? ⟨w.heap.size, 7, none⟩ = some (.int .i64 C.2) ∧ w'.cell? ⟨w.heap.size + 1, 0, none⟩ = some (.int .i64 u.1) ∧ w'.cell? ⟨w.heap.size + 1, 1, none⟩ = some (.int .i64 u.2))) (by kernel_rfl) (HX.out _ _ hsd) (fun hHeld => ?_);refine tkB 0 ?_;simp only [Act.put, s_1, s_2, s_3, s_4, s_6];refine tkB 1 ?_;simp only [Act.put, s_1, s_2, s_3, s_4, s_5, s_6];refine tkB 2 ?_;simp only [Act.put, s_1, s_2, s_3, s_4, s_5, s_6];refine tkB 3 ?_;simp only [Act.put, s_1, s_2, s_3, s_4, s_5, s_6];refine tkB 4 ?_;simp only [Act.put, s_1, s_2, s_3, s_4, s_5, s_6];refine tkB 5 ?_;simp only [Act.put, s_1, s_2, s_3, s_4, s_5, s_6];refine tkB 6 ?_;simp only [Act.put, s_1, s_2, s_3, s_4, s_5, s_6];refine tkB 7 ?_;simp only [Act.put, s_1, s_2, s_3, s_4, s_5, s_6];refine tkB 8 ?_;simp only [Act.put, s_1, s_2, s_3, s_4, s_5, s_6];refine r1 9 (fun K hK => ?_)
 try simp only [s_4, s_5, s_6]
 go_simp
 (go_at_call 107; go_split_ands; (with_reducible refine (HK1.out _ hsd.cell hsd.free).mono ?_); rintro z w1 ⟨rfl, ht1⟩; have hs1 := hsd.trans ht1)
 go_wp2_with fail
 refine hK.out _ _ (HX.out _ _ hs1) (fun hHeld => ?_);clear hK K
 try simp only [Act.put, s_1, s_2, s_3, s_4, s_5, s_6]
 refine r1 10 (fun K hK => ?_)
 try simp only [s_4, s_5, s_6]
 go_simp
 (go_at_call 107; go_split_ands; (with_reducible refine (HK2.out _ hs1.cell hs1.free).mono ?_); rintro z w2 ⟨rfl, ht2⟩; have hs2 := hs1.trans ht2)
 go_wp2_with fail
 refine hK.out _ _ (HX.out _ _ hs2) (fun hHeld => ?_);clear hK K
 try simp only [Act.put, s_1, s_2, s_3, s_4, s_5, s_6]
 refine r1 11 (fun K hK => ?_)
 try simp only [s_4, s_5, s_6]
 go_simp
 (go_at_call 106; go_split_ands; (with_reducible refine (HK3.out _ hs2.cell hs2.free).mono ?_); rintro z w3 ⟨rfl, ht3⟩; have hs3 := hs2.trans ht3)
 go_wp2_with fail
 refine hK.out _ _ (HX.out _ _ hs3) (fun hHeld => ?_);clear hK K
 try simp only [Act.put, s_1, s_2, s_3, s_4, s_5, s_6]
 refine r1 12 (fun K hK => ?_);go_split_ands;obtain ⟨g0, g1, g2, g3⟩ := HY.out _ _ hs3
 try simp only [s_4, s_5, s_6]
 go_wp2_with fail
 skip
 refine hK.out _ _ (HZ.out _ _ hs3 _ _) (fun hHeld => ?_);clear hK K
 try simp only [Act.put, s_1, s_2, s_3, s_4, s_5, s_6]
 refine wpAnyH_done (by kernel_rfl) ?_ _
 go_wp2_with fail
 have l0 := (two_cells (v0 := .int .i64 K3.1.1) (v1 := .int .i64 K3.1.2) g0 g1).1;have l1 := (two_cells (v0 := .int .i64 K3.1.1) (v1 := .int .i64 K3.1.2) g0 g1).2;refine bodyPost_ret (v := .agg #[.int .i64 K3.1.1, .int .i64 K3.1.2]) (by simp [results, Tryz.results67, go_sem, l0, l1]) rfl ⟨rfl, ?_⟩;exact ((Sm.from hW0 hb hs3).setCell (p := ⟨w.heap.size + 1 + 1, 0, none⟩) (by simp <;> omega) hb _).setCell (p := ⟨w.heap.size + 1 + 1, 1, none⟩) (by simp <;> omega) hb _
theorem qresult_any (b : Nat) (e : Int) (x : Int × Int) (w : World) (hc : w.cell? ⟨b, 0, none⟩ = some (.int .i64 e)) :
  Calls Tryz.prog 63 #[.pointer (some ⟨b, 0, none⟩), .agg #[.int .i64 x.1, .int .i64 x.2]] w fun z w' => z = .returned (.tuple #[.agg #[.int .i64 (if e = 0 then x.1 else 0), .int .i64 (if e = 0 then x.2 else 0)], .int .i64 e]) ∧ Below w.heap.size w w' := by
 have hb : b < w.heap.size := wl hc
 by_cases z : e = 0
 ·rw [if_pos z, if_pos z]
  subst z
  go_enter Tryz.func63, Tryz.ntmps63
  go_wp2_with fail
  refine bodyPost_ret (v := .tuple #[.agg #[.int .i64 x.1, .int .i64 x.2], .int .i64 0]) (by simp [results, Tryz.results63, go_sem]) rfl ⟨rfl, ?_⟩;exact (below_new _ _).alloc (by simp) _
 ·rw [if_neg z, if_neg z]
  have z1 : (e == 0) = false := beq_eq_false_iff_ne.2 z;have z2 : (e != 0) = true := by simpa using z
  clear z
  go_enter Tryz.func63, Tryz.ntmps63
  go_upto_region 2 with (fail)
  go_region
  all_goals go_wp2_with fail
  all_goals refine bodyPost_ret (v := .tuple #[.agg #[.int .i64 0, .int .i64 0], .int .i64 e]) (by simp [results, Tryz.results63, go_sem]) rfl ⟨rfl, ?_⟩
  all_goals exact ((below_new _ _).alloc (by simp) _).drew
structure PcOK (p : Pc) : Prop where
 f : validF p.f0 p.f1 = true
 a : validF p.a0 p.a1 = true
 b : validF p.b0 p.b1 = true
 c : validF p.c0 p.c1 = true
structure CurveOK (L : List Pc) : Prop where
 pos : 1 ≤ L.length
 len : L.length ≤ 200
 val : ∀ i, i < L.length → PcOK (pcg L i)
 asc : ∀ i, i + 1 < L.length → (pcg L i).f0 * (pcg L (i + 1)).f1 < (pcg L (i + 1)).f0 * (pcg L i).f1
theorem cmpP_lt {x y : Int} (h : x < y) : cmpP x y = -1 := by unfold cmpP; rw [if_neg (by omega), if_pos h]
theorem cmpP_le {x y : Int} : cmpP x y ≤ 0 ↔ x ≤ y := by unfold cmpP; split <;> (try split) <;> omega
theorem compare_any (an ad bn bd : Int) (va : validF an ad = true) (vb : validF bn bd = true) (w : World) :
  Calls Tryz.prog 105 #[.agg #[.int .i64 an, .int .i64 ad], .agg #[.int .i64 bn, .int .i64 bd]] w fun e w' => e = .returned (.int .i64 (cmpP (an * bd) (bn * ad))) ∧ Below w.heap.size w w' := by
 have HC := lh (cmp_all an ad bn bd va vb);generalize cmpP (an * bd) (bn * ad) = C at *;clear va vb
 go_enter Tryz.func105, Tryz.ntmps105
 go_wp2_with (go_at_call 131; (with_reducible refine (HC.out _).mono ?_); rintro e w1 ⟨rfl, hb1⟩)
 go_ret;exact ⟨rfl, ((below_new _ _).alloc (by simp) _).trans (hb1.mono (by simp <;> omega))⟩
theorem qvalid_yes (L : List Pc) (ok : CurveOK L) (a : Option Addr) (c : Nat) (w : World) (hL : Pcs w.heap.size w a L) :
  Calls Tryz.prog 61 #[.slice a L.length c] w fun e w' => e = .returned (.bool true) ∧ Below w.heap.size w w' := by
 have hl1 := ok.pos;have hl2 := ok.len;have HOK := lh ok;have g1 : decide ((L.length : Int) < 1) = false := dF (by omega);have g2 : decide (200 < (L.length : Int)) = false := dF (by omega);have g3 : decide (200 < L.length) = false := dF (by omega);obtain ⟨b, off, rfl, hb, hc⟩ := hL (by omega);have HC := lh hc;clear ok hc hL
 go_enter Tryz.func61, Tryz.ntmps61
 go_wp2_with fail
 clear g1 g2 g3
 go_loopw [15] (fun i wr => ∃ k : Nat, k ≤ L.length ∧ i = .int .i64 k ∧ Below w.heap.size w wr) (fun i _ => L.length - (intOf i).toNat)
 case atStart => exact ⟨0, Nat.zero_le _, rfl, br⟩
 case round =>
  obtain ⟨k, hk, rfl, hB⟩ := hrel;have hbs := hB.size
  by_cases hlt : k < L.length
  ·obtain ⟨c0, c1, c2, c3, c4, c5, c6, c7⟩ := HC.out k hlt
   have d0 := (hB.cell (p := ⟨b, off + k * 8, none⟩) hb).trans c0;have d1 := (hB.cell (p := ⟨b, off + k * 8 + 1, none⟩) hb).trans c1;have d2 := (hB.cell (p := ⟨b, off + k * 8 + 2, none⟩) hb).trans c2;have d3 := (hB.cell (p := ⟨b, off + k * 8 + 3, none⟩) hb).trans c3;have d4 := (hB.cell (p := ⟨b, off + k * 8 + 4, none⟩) hb).trans c4;have d5 := (hB.cell (p := ⟨b, off + k * 8 + 5, none⟩) hb).trans c5;have d6 := (hB.cell (p := ⟨b, off + k * 8 + 6, none⟩) hb).trans c6;have d7 := (hB.cell (p := ⟨b, off + k * 8 + 7, none⟩) hb).trans c7;have hok := HOK.out.val k hlt;have HVf := lh hok.f;have HVa := lh hok.a;have HVb := lh hok.b;have HVc := lh hok.c;have i0 : 0 ≤ (k : Int) := by omega
   have i1 : (k : Int) < (L.length : Int) := by omega
   have s1 : IntKind.i64.wrap ((k : Int) + 1) = (k : Int) + 1 := IntWalk.i64_in _ (by omega);clear c0 c1 c2 c3 c4 c5 c6 c7 hok;have hn0 : wr.heap.size < (wr.alloc (.cells #[.int .i64 (pcg L k).f0, .int .i64 (pcg L k).f1, .int .i64 (pcg L k).a0, .int .i64 (pcg L k).a1, .int .i64 (pcg L k).b0, .int .i64 (pcg L k).b1, .int .i64 (pcg L k).c0, .int .i64 (pcg L k).c1] 81)).heap.size := by simp
   have z0_0 : (wr.alloc (.cells #[.int .i64 (pcg L k).f0, .int .i64 (pcg L k).f1, .int .i64 (pcg L k).a0, .int .i64 (pcg L k).a1, .int .i64 (pcg L k).b0, .int .i64 (pcg L k).b1, .int .i64 (pcg L k).c0, .int .i64 (pcg L k).c1] 81)).cell? ⟨wr.heap.size, 0, none⟩ = some (.int .i64 (pcg L k).f0) := by simp
   have z0_1 : (wr.alloc (.cells #[.int .i64 (pcg L k).f0, .int .i64 (pcg L k).f1, .int .i64 (pcg L k).a0, .int .i64 (pcg L k).a1, .int .i64 (pcg L k).b0, .int .i64 (pcg L k).b1, .int .i64 (pcg L k).c0, .int .i64 (pcg L k).c1] 81)).cell? ⟨wr.heap.size, 1, none⟩ = some (.int .i64 (pcg L k).f1) := by simp
   have z0_2 : (wr.alloc (.cells #[.int .i64 (pcg L k).f0, .int .i64 (pcg L k).f1, .int .i64 (pcg L k).a0, .int .i64 (pcg L k).a1, .int .i64 (pcg L k).b0, .int .i64 (pcg L k).b1, .int .i64 (pcg L k).c0, .int .i64 (pcg L k).c1] 81)).cell? ⟨wr.heap.size, 2, none⟩ = some (.int .i64 (pcg L k).a0) := by simp
   have z0_3 : (wr.alloc (.cells #[.int .i64 (pcg L k).f0, .int .i64 (pcg L k).f1, .int .i64 (pcg L k).a0, .int .i64 (pcg L k).a1, .int .i64 (pcg L k).b0, .int .i64 (pcg L k).b1, .int .i64 (pcg L k).c0, .int .i64 (pcg L k).c1] 81)).cell? ⟨wr.heap.size, 3, none⟩ = some (.int .i64 (pcg L k).a1) := by simp
   have z0_4 : (wr.alloc (.cells #[.int .i64 (pcg L k).f0, .int .i64 (pcg L k).f1, .int .i64 (pcg L k).a0, .int .i64 (pcg L k).a1, .int .i64 (pcg L k).b0, .int .i64 (pcg L k).b1, .int .i64 (pcg L k).c0, .int .i64 (pcg L k).c1] 81)).cell? ⟨wr.heap.size, 4, none⟩ = some (.int .i64 (pcg L k).b0) := by simp
   have z0_5 : (wr.alloc (.cells #[.int .i64 (pcg L k).f0, .int .i64 (pcg L k).f1, .int .i64 (pcg L k).a0, .int .i64 (pcg L k).a1, .int .i64 (pcg L k).b0, .int .i64 (pcg L k).b1, .int .i64 (pcg L k).c0, .int .i64 (pcg L k).c1] 81)).cell? ⟨wr.heap.size, 5, none⟩ = some (.int .i64 (pcg L k).b1) := by simp
   have z0_6 : (wr.alloc (.cells #[.int .i64 (pcg L k).f0, .int .i64 (pcg L k).f1, .int .i64 (pcg L k).a0, .int .i64 (pcg L k).a1, .int .i64 (pcg L k).b0, .int .i64 (pcg L k).b1, .int .i64 (pcg L k).c0, .int .i64 (pcg L k).c1] 81)).cell? ⟨wr.heap.size, 6, none⟩ = some (.int .i64 (pcg L k).c0) := by simp
   have z0_7 : (wr.alloc (.cells #[.int .i64 (pcg L k).f0, .int .i64 (pcg L k).f1, .int .i64 (pcg L k).a0, .int .i64 (pcg L k).a1, .int .i64 (pcg L k).b0, .int .i64 (pcg L k).b1, .int .i64 (pcg L k).c0, .int .i64 (pcg L k).c1] 81)).cell? ⟨wr.heap.size, 7, none⟩ = some (.int .i64 (pcg L k).c1) := by simp
   go_upto_region 8 with (first
    | (go_at_call 60; (with_reducible refine (valid_any (pcg L k).f0 (pcg L k).f1 _).mono ?_); rintro e w1 ⟨rfl, hv1⟩; rw [HVf.out]; have z1_0 : w1.cell? ⟨wr.heap.size, 0, none⟩ = some (.int .i64 (pcg L k).f0) := (hv1.cell (p := ⟨wr.heap.size, 0, none⟩) hn0).trans z0_0; have z1_1 : w1.cell? ⟨wr.heap.size, 1, none⟩ = some (.int .i64 (pcg L k).f1) := (hv1.cell (p := ⟨wr.heap.size, 1, none⟩) hn0).trans z0_1; have z1_2 : w1.cell? ⟨wr.heap.size, 2, none⟩ = some (.int .i64 (pcg L k).a0) := (hv1.cell (p := ⟨wr.heap.size, 2, none⟩) hn0).trans z0_2; have z1_3 : w1.cell? ⟨wr.heap.size, 3, none⟩ = some (.int .i64 (pcg L k).a1) := (hv1.cell (p := ⟨wr.heap.size, 3, none⟩) hn0).trans z0_3; have z1_4 : w1.cell? ⟨wr.heap.size, 4, none⟩ = some (.int .i64 (pcg L k).b0) := (hv1.cell (p := ⟨wr.heap.size, 4, none⟩) hn0).trans z0_4; have z1_5 : w1.cell? ⟨wr.heap.size, 5, none⟩ = some (.int .i64 (pcg L k).b1) := (hv1.cell (p := ⟨wr.heap.size, 5, none⟩) hn0).trans z0_5; have z1_6 : w1.cell? ⟨wr.heap.size, 6, none⟩ = some (.int .i64 (pcg L k).c0) := (hv1.cell (p := ⟨wr.heap.size, 6, none⟩) hn0).trans z0_6; have z1_7 : w1.cell? ⟨wr.heap.size, 7, none⟩ = some (.int .i64 (pcg L k).c1) := (hv1.cell (p := ⟨wr.heap.size, 7, none⟩) hn0).trans z0_7; have hn1 : wr.heap.size < w1.heap.size := wl z1_0)
    | (go_at_call 60; (with_reducible refine (valid_any (pcg L k).a0 (pcg L k).a1 _).mono ?_); rintro e w2 ⟨rfl, hv2⟩; rw [HVa.out]; have z2_0 : w2.cell? ⟨wr.heap.size, 0, none⟩ = some (.int .i64 (pcg L k).f0) := (hv2.cell (p := ⟨wr.heap.size, 0, none⟩) hn1).trans z1_0; have z2_1 : w2.cell? ⟨wr.heap.size, 1, none⟩ = some (.int .i64 (pcg L k).f1) := (hv2.cell (p := ⟨wr.heap.size, 1, none⟩) hn1).trans z1_1; have z2_2 : w2.cell? ⟨wr.heap.size, 2, none⟩ = some (.int .i64 (pcg L k).a0) := (hv2.cell (p := ⟨wr.heap.size, 2, none⟩) hn1).trans z1_2; have z2_3 : w2.cell? ⟨wr.heap.size, 3, none⟩ = some (.int .i64 (pcg L k).a1) := (hv2.cell (p := ⟨wr.heap.size, 3, none⟩) hn1).trans z1_3; have z2_4 : w2.cell? ⟨wr.heap.size, 4, none⟩ = some (.int .i64 (pcg L k).b0) := (hv2.cell (p := ⟨wr.heap.size, 4, none⟩) hn1).trans z1_4; have z2_5 : w2.cell? ⟨wr.heap.size, 5, none⟩ = some (.int .i64 (pcg L k).b1) := (hv2.cell (p := ⟨wr.heap.size, 5, none⟩) hn1).trans z1_5; have z2_6 : w2.cell? ⟨wr.heap.size, 6, none⟩ = some (.int .i64 (pcg L k).c0) := (hv2.cell (p := ⟨wr.heap.size, 6, none⟩) hn1).trans z1_6; have z2_7 : w2.cell? ⟨wr.heap.size, 7, none⟩ = some (.int .i64 (pcg L k).c1) := (hv2.cell (p := ⟨wr.heap.size, 7, none⟩) hn1).trans z1_7; have hn2 : wr.heap.size < w2.heap.size := wl z2_0)
    | (go_at_call 60; (with_reducible refine (valid_any (pcg L k).b0 (pcg L k).b1 _).mono ?_); rintro e w3 ⟨rfl, hv3⟩; rw [HVb.out]; have z3_0 : w3.cell? ⟨wr.heap.size, 0, none⟩ = some (.int .i64 (pcg L k).f0) := (hv3.cell (p := ⟨wr.heap.size, 0, none⟩) hn2).trans z2_0; have z3_1 : w3.cell? ⟨wr.heap.size, 1, none⟩ = some (.int .i64 (pcg L k).f1) := (hv3.cell (p := ⟨wr.heap.size, 1, none⟩) hn2).trans z2_1; have z3_2 : w3.cell? ⟨wr.heap.size, 2, none⟩ = some (.int .i64 (pcg L k).a0) := (hv3.cell (p := ⟨wr.heap.size, 2, none⟩) hn2).trans z2_2; have z3_3 : w3.cell? ⟨wr.heap.size, 3, none⟩ = some (.int .i64 (pcg L k).a1) := (hv3.cell (p := ⟨wr.heap.size, 3, none⟩) hn2).trans z2_3; have z3_4 : w3.cell? ⟨wr.heap.size, 4, none⟩ = some (.int .i64 (pcg L k).b0) := (hv3.cell (p := ⟨wr.heap.size, 4, none⟩) hn2).trans z2_4; have z3_5 : w3.cell? ⟨wr.heap.size, 5, none⟩ = some (.int .i64 (pcg L k).b1) := (hv3.cell (p := ⟨wr.heap.size, 5, none⟩) hn2).trans z2_5; have z3_6 : w3.cell? ⟨wr.heap.size, 6, none⟩ = some (.int .i64 (pcg L k).c0) := (hv3.cell (p := ⟨wr.heap.size, 6, none⟩) hn2).trans z2_6; have z3_7 : w3.cell? ⟨wr.heap.size, 7, none⟩ = some (.int .i64 (pcg L k).c1) := (hv3.cell (p := ⟨wr.heap.size, 7, none⟩) hn2).trans z2_7; have hn3 : wr.heap.size < w3.heap.size := wl z3_0)
    | (go_at_call 60; (with_reducible refine (valid_any (pcg L k).c0 (pcg L k).c1 _).mono ?_); rintro e w4 ⟨rfl, hv4⟩; rw [HVc.out]; have z4_0 : w4.cell? ⟨wr.heap.size, 0, none⟩ = some (.int .i64 (pcg L k).f0) := (hv4.cell (p := ⟨wr.heap.size, 0, none⟩) hn3).trans z3_0; have z4_1 : w4.cell? ⟨wr.heap.size, 1, none⟩ = some (.int .i64 (pcg L k).f1) := (hv4.cell (p := ⟨wr.heap.size, 1, none⟩) hn3).trans z3_1; have z4_2 : w4.cell? ⟨wr.heap.size, 2, none⟩ = some (.int .i64 (pcg L k).a0) := (hv4.cell (p := ⟨wr.heap.size, 2, none⟩) hn3).trans z3_2; have z4_3 : w4.cell? ⟨wr.heap.size, 3, none⟩ = some (.int .i64 (pcg L k).a1) := (hv4.cell (p := ⟨wr.heap.size, 3, none⟩) hn3).trans z3_3; have z4_4 : w4.cell? ⟨wr.heap.size, 4, none⟩ = some (.int .i64 (pcg L k).b0) := (hv4.cell (p := ⟨wr.heap.size, 4, none⟩) hn3).trans z3_4; have z4_5 : w4.cell? ⟨wr.heap.size, 5, none⟩ = some (.int .i64 (pcg L k).b1) := (hv4.cell (p := ⟨wr.heap.size, 5, none⟩) hn3).trans z3_5; have z4_6 : w4.cell? ⟨wr.heap.size, 6, none⟩ = some (.int .i64 (pcg L k).c0) := (hv4.cell (p := ⟨wr.heap.size, 6, none⟩) hn3).trans z3_6; have z4_7 : w4.cell? ⟨wr.heap.size, 7, none⟩ = some (.int .i64 (pcg L k).c1) := (hv4.cell (p := ⟨wr.heap.size, 7, none⟩) hn3).trans z3_7; have hn4 : wr.heap.size < w4.heap.size := wl z4_0))
   have hB4 : Below w.heap.size w w4 := ((((hB.alloc hbs _).trans (hv1.mono (by simp; omega))).trans (hv2.mono (by have := hv1.size; simp at this; omega))).trans (hv3.mono (by omega))).trans (hv4.mono (by omega));have hw4 : Below wr.heap.size wr w4 := ((((below_new wr _).trans (hv1.mono (by simp))).trans (hv2.mono (by omega))).trans (hv3.mono (by omega))).trans (hv4.mono (by omega));clear hv1 hv2 hv3 hv4 hn0 hn1 hn2 hn3 z0_0 z0_1 z0_2 z0_3 z0_4 z0_5 z0_6 z0_7 z1_0 z1_1 z1_2 z1_3 z1_4 z1_5 z1_6 z1_7 z2_0 z2_1 z2_2 z2_3 z2_4 z2_5 z2_6 z2_7 z3_0 z3_1 z3_2 z3_3 z3_4 z3_5 z3_6 z3_7 d0 d1 d2 d3 d4 d5 d6 d7 z4_2 z4_3 z4_4 z4_5 z4_6 z4_7;have hbx := hB4.size;rcases (show k = 0 ∨ ∃ m, k = m + 1 by cases k with | zero => exact .inl rfl | succ m => exact .inr ⟨m, rfl⟩) with rfl | ⟨m, rfl⟩
   ·go_quiet (fail)
    go_wp2_with fail
    go_roundw
    case rel => exact ⟨1, by omega, by go_num, by first | exact below_drewN hB4 _ | exact hB4.drew⟩
    case measure => simp [intOf]; omega
   ·obtain ⟨c0, c1, c2, c3, c4, c5, c6, c7⟩ := HC.out m (by omega)
    have q0 := (hB4.cell (p := ⟨b, off + m * 8, none⟩) hb).trans c0;have q1 := (hB4.cell (p := ⟨b, off + m * 8 + 1, none⟩) hb).trans c1;have HV1 := lh (HOK.out.val m (by omega)).f;have HA := lh (cmpP_lt (HOK.out.asc m hlt));have j0 : IntKind.i64.wrap (((m + 1 : Nat) : Int) - 1) = (m : Int) := (IntWalk.i64_in _ (by omega)).trans (by omega);have j1 : IntKind.i64.wrap ((m : Int) + 1 - 1) = (m : Int) := (IntWalk.i64_in _ (by omega)).trans (by omega);have j2 : IntKind.i64.wrap (m : Int) = (m : Int) := IntWalk.i64_in _ (by omega);have j3 : (m : Int) < (L.length : Int) := by omega
    have j4 : decide ((0 : Int) < ((m + 1 : Nat) : Int)) = true := dT (by omega);have j5 : decide ((0 : Int) < (m : Int) + 1) = true := dT (by omega);have j6 : (0 : Int) ≤ (m : Int) := by omega
    have j7 : m < L.length := by omega
    clear c0 c1 c2 c3 c4 c5 c6 c7;have hn4' := hn4
    have HSX : Hid (∀ w', Below w4.heap.size w4 w' → Below w4.heap.size w4 w' ∧ w'.cell? ⟨b, off + m * 8, none⟩ = some (.int .i64 (pcg L m).f0) ∧ w'.cell? ⟨b, off + m * 8 + 1, none⟩ = some (.int .i64 (pcg L m).f1) ∧ w'.cell? ⟨wr.heap.size, 0, none⟩ = some (.int .i64 (pcg L (m + 1)).f0) ∧ w'.cell? ⟨wr.heap.size, 1, none⟩ = some (.int .i64 (pcg L (m + 1)).f1)) := lh fun w' h =>
     ⟨h, (h.cell (p := ⟨b, off + m * 8, none⟩) (by simp; omega)).trans q0, (h.cell (p := ⟨b, off + m * 8 + 1, none⟩) (by simp; omega)).trans q1, (h.cell (p := ⟨wr.heap.size, 0, none⟩) hn4).trans z4_0, (h.cell (p := ⟨wr.heap.size, 1, none⟩) hn4).trans z4_1⟩
    clear q0 q1 z4_0 z4_1;refine wp_region_held_drew (S := (fun w' => Below w4.heap.size w4 w' ∧ w'.cell? ⟨b, off + m * 8, none⟩ = some (.int .i64 (pcg L m).f0) ∧ w'.cell? ⟨b, off + m * 8 + 1, none⟩ = some (.int .i64 (pcg L m).f1) ∧ w'.cell? ⟨wr.heap.size, 0, none⟩ = some (.int .i64 (pcg L (m + 1)).f0) ∧ w'.cell? ⟨wr.heap.size, 1, none⟩ = some (.int .i64 (pcg L (m + 1)).f1))) (by kernel_rfl) (HSX.out _ (br).drew) (fun hHeld => ?_);refine tkB 0 ?_;simp only [Act.put, s_1, s_2, s_3, s_4, s_6];refine tkB 1 ?_;simp only [Act.put, s_1, s_2, s_3, s_4, s_5, s_6];refine tkB 2 ?_;simp only [Act.put, s_1, s_2, s_3, s_4, s_5, s_6];refine tkB 3 ?_;simp only [Act.put, s_1, s_2, s_3, s_4, s_5, s_6];refine tkB 4 ?_;simp only [Act.put, s_1, s_2, s_3, s_4, s_5, s_6];refine tkB 5 ?_;simp only [Act.put, s_1, s_2, s_3, s_4, s_5, s_6];refine tkB 6 ?_;simp only [Act.put, s_1, s_2, s_3, s_4, s_5, s_6];refine tkB 7 ?_;simp only [Act.put, s_1, s_2, s_3, s_4, s_5, s_6];refine tkB 8 ?_;simp only [Act.put, s_1, s_2, s_3, s_4, s_5, s_6];refine tkB 9 ?_;simp only [Act.put, s_1, s_2, s_3, s_4, s_5, s_6];refine tkB 10 ?_;simp only [Act.put, s_1, s_2, s_3, s_4, s_5, s_6];refine r1 11 (fun K hK => ?_)
    try simp only [s_4, s_5, s_6]
    go_simp
    (go_at_call 105; go_split_ands; (with_reducible refine (compare_any (pcg L m).f0 (pcg L m).f1 (pcg L (m + 1)).f0 (pcg L (m + 1)).f1 HV1.out HVf.out _).mono ?_); rintro e w5 ⟨rfl, hb5⟩; rw [HA.out]; have hb6 : Below w4.heap.size w4 w5 := ((Below.refl w4.heap.size w4).drew).trans hb5)
    go_wp2_with fail
    refine hK.out _ _ (HSX.out _ hb6) (fun hHeld => ?_);clear hK K
    try simp only [Act.put, s_1, s_2, s_3, s_4, s_5, s_6]
    refine tkB 12 ?_;simp only [Act.put, s_1, s_2, s_3, s_4, s_5, s_6];refine tkB 13 ?_;simp only [Act.put, s_1, s_2, s_3, s_4, s_5, s_6];refine wpAnyH_done (by kernel_rfl) ?_ _
    go_wp2_with fail
    go_roundw
    case rel => exact ⟨m + 2, by omega, by go_num, hB4.trans (hb6.mono hB4.size)⟩
    case measure => simp [intOf]; omega
  ·obtain rfl : k = L.length := by omega
   go_wp2_with fail
   go_ret;exact ⟨rfl, hB⟩
def pieceN (L : List Pc) (t : Int × Int) : Nat → Int
 | 0 => -1
 | k + 1 => if (pcg L k).f0 * t.2 ≤ t.1 * (pcg L k).f1 then (k : Int) else pieceN L t k
theorem piece_any (L : List Pc) (ok : CurveOK L) (t : Int × Int) (vt : vF t = true) (a : Option Addr) (c : Nat) (w : World) (hL : Pcs w.heap.size w a L) :
  Calls Tryz.prog 62 #[.slice a L.length c, .agg #[.int .i64 t.1, .int .i64 t.2]] w fun e w' => e = .returned (.int .i64 (pieceN L t L.length)) ∧ Below w.heap.size w w' := by
 have hl2 := ok.len;have HOK := lh ok;obtain ⟨b, off, rfl, hb, hc⟩ := hL (by have := ok.pos; omega);have HC := lh hc;have HT : Hid (validF t.1 t.2 = true) := lh vt;clear ok hc hL vt
 go_enter Tryz.func62, Tryz.ntmps62
 go_wp2_with fail
 go_loopw [5, 10] (fun p i wr => ∃ k : Nat, k ≤ L.length ∧ i = .int .i64 k ∧ p = .int .i64 (pieceN L t k) ∧ Below w.heap.size w wr ∧ w.heap.size < wr.heap.size ∧ wr.cell? ⟨w.heap.size, 0, none⟩ = some (.int .i64 t.1) ∧ wr.cell? ⟨w.heap.size, 1, none⟩ = some (.int .i64 t.2)) (fun _ i _ => L.length - (intOf i).toNat)
 case atStart => exact ⟨0, Nat.zero_le _, rfl, rfl, below_new _ _, by simp, by simp, by simp⟩
 case round =>
  obtain ⟨k, hk, rfl, rfl, hB, hbs, t0, t1⟩ := hrel
  by_cases hlt : k < L.length
  ·obtain ⟨c0, c1, c2, c3, c4, c5, c6, c7⟩ := HC.out k hlt
   have d0 := (hB.cell (p := ⟨b, off + k * 8, none⟩) hb).trans c0;have d1 := (hB.cell (p := ⟨b, off + k * 8 + 1, none⟩) hb).trans c1;have d2 := (hB.cell (p := ⟨b, off + k * 8 + 2, none⟩) hb).trans c2;have d3 := (hB.cell (p := ⟨b, off + k * 8 + 3, none⟩) hb).trans c3;have d4 := (hB.cell (p := ⟨b, off + k * 8 + 4, none⟩) hb).trans c4;have d5 := (hB.cell (p := ⟨b, off + k * 8 + 5, none⟩) hb).trans c5;have d6 := (hB.cell (p := ⟨b, off + k * 8 + 6, none⟩) hb).trans c6;have d7 := (hB.cell (p := ⟨b, off + k * 8 + 7, none⟩) hb).trans c7;have HVf := lh (HOK.out.val k hlt).f;have i0 : 0 ≤ (k : Int) := by omega
   have i1 : (k : Int) < (L.length : Int) := by omega
   have s1 : IntKind.i64.wrap ((k : Int) + 1) = (k : Int) + 1 := IntWalk.i64_in _ (by omega);obtain ⟨P, hP⟩ := nm (pieceN L t k);rw [hP];obtain ⟨C, hC⟩ := nm (cmpP ((pcg L k).f0 * t.2) (t.1 * (pcg L k).f1));have HCC := lh hC;have hle : C ≤ 0 ↔ (pcg L k).f0 * t.2 ≤ t.1 * (pcg L k).f1 := by rw [← hC]; exact cmpP_le
   have HN : Hid (pieceN L t (k + 1) = if C ≤ 0 then (k : Int) else P) := lh (by
    rw [pieceN, hP]
    by_cases h : C ≤ 0
    ·rw [if_pos h, if_pos (hle.1 h)]
    ·rw [if_neg h, if_neg (fun x => h (hle.2 x))])
   clear c0 c1 c2 c3 c4 c5 c6 c7 hC hle hP
   by_cases h : C ≤ 0
   ·have g : decide (C ≤ 0) = true := decide_eq_true h
    rw [if_pos h] at HN;clear h
    go_wp2_with (go_at_call 105; (with_reducible refine (compare_any (pcg L k).f0 (pcg L k).f1 t.1 t.2 HVf.out HT.out _).mono ?_); rw [HCC.out]; rintro e w1 ⟨rfl, hb1⟩)
    have e0 := (hb1.cell (p := ⟨w.heap.size, 0, none⟩) (by simp <;> omega)).trans ((World.cell?_alloc_lt _ _ _ hbs).trans t0);have e1 := (hb1.cell (p := ⟨w.heap.size, 1, none⟩) (by simp <;> omega)).trans ((World.cell?_alloc_lt _ _ _ hbs).trans t1);have hB1 := (hB.alloc hB.size (.cells #[.int .i64 (pcg L k).f0, .int .i64 (pcg L k).f1, .int .i64 (pcg L k).a0, .int .i64 (pcg L k).a1, .int .i64 (pcg L k).b0, .int .i64 (pcg L k).b1, .int .i64 (pcg L k).c0, .int .i64 (pcg L k).c1] 81)).trans (hb1.mono (by simp; omega));go_roundw
    case rel => exact ⟨k + 1, by omega, by go_num, by rw [HN.out], hB1, wl e0, e0, e1⟩
    case measure => simp [intOf]; omega
   ·have g : decide (C ≤ 0) = false := decide_eq_false h
    rw [if_neg h] at HN;clear h
    go_wp2_with (go_at_call 105; (with_reducible refine (compare_any (pcg L k).f0 (pcg L k).f1 t.1 t.2 HVf.out HT.out _).mono ?_); rw [HCC.out]; rintro e w1 ⟨rfl, hb1⟩)
    have e0 := (hb1.cell (p := ⟨w.heap.size, 0, none⟩) (by simp <;> omega)).trans ((World.cell?_alloc_lt _ _ _ hbs).trans t0);have e1 := (hb1.cell (p := ⟨w.heap.size, 1, none⟩) (by simp <;> omega)).trans ((World.cell?_alloc_lt _ _ _ hbs).trans t1);have hB1 := (hB.alloc hB.size (.cells #[.int .i64 (pcg L k).f0, .int .i64 (pcg L k).f1, .int .i64 (pcg L k).a0, .int .i64 (pcg L k).a1, .int .i64 (pcg L k).b0, .int .i64 (pcg L k).b1, .int .i64 (pcg L k).c0, .int .i64 (pcg L k).c1] 81)).trans (hb1.mono (by simp; omega));go_roundw
    case rel => exact ⟨k + 1, by omega, by go_num, by rw [HN.out], hB1, wl e0, e0, e1⟩
    case measure => simp [intOf]; omega
  ·obtain rfl : k = L.length := by omega
   go_wp2_with fail
   go_ret;exact ⟨rfl, hB⟩
theorem pieceN_range (L : List Pc) (t : Int × Int) (k : Nat) : -1 ≤ pieceN L t k ∧ pieceN L t k < (k : Int) := by
 induction k with
 | zero => exact ⟨Int.le_refl _, by unfold pieceN; omega⟩
 | succ k ih => unfold pieceN; split <;> omega
def resV (v : (Int × Int) × Int) : Int × Int × Int := (if v.2 = 0 then v.1.1 else 0, if v.2 = 0 then v.1.2 else 0, v.2)
def valAt (L : List Pc) (t : Int × Int) (i : Nat) : Int × Int × Int := resV (kVal (kSub 0 t ((pcg L i).f0, (pcg L i).f1)).2 ((pcg L i).a0, (pcg L i).a1) ((pcg L i).b0, (pcg L i).b1) ((pcg L i).c0, (pcg L i).c1) (kSub 0 t ((pcg L i).f0, (pcg L i).f1)).1)
def slopeAt (L : List Pc) (t : Int × Int) (i : Nat) : Int × Int × Int := resV (kSlope (kSub 0 t ((pcg L i).f0, (pcg L i).f1)).2 ((pcg L i).b0, (pcg L i).b1) ((pcg L i).c0, (pcg L i).c1) (kSub 0 t ((pcg L i).f0, (pcg L i).f1)).1)
def atP (L : List Pc) (t : Int × Int) : Int × Int × Int := if vF t = true then (if pieceN L t L.length < 0 then ((pcg L 0).a0, (pcg L 0).a1, 0) else valAt L t (pieceN L t L.length).toNat) else (0, 0, 1)
def slopeP (L : List Pc) (t : Int × Int) : Int × Int × Int := if vF t = true then (if pieceN L t L.length < 0 then (0, 1, 0) else slopeAt L t (pieceN L t L.length).toNat) else (0, 0, 1)
theorem qat_any (L : List Pc) (ok : CurveOK L) (t : Int × Int) (a : Option Addr) (c : Nat) (w : World) (hL : Pcs w.heap.size w a L) :
  Calls Tryz.prog 26 #[.slice a L.length c, .agg #[.int .i64 t.1, .int .i64 t.2]] w fun e w' => e = .returned (.tuple #[.agg #[.int .i64 (atP L t).1, .int .i64 (atP L t).2.1], .int .i64 (atP L t).2.2]) ∧ Below w.heap.size w w' := by
 have hpos := ok.pos;have hlen := ok.len;have hL0 : Pcs ((w.alloc (.cells #[.int .i64 t.1, .int .i64 t.2] 29)).alloc (.cells #[.int .i64 0, .int .i64 0] 29)).heap.size ((w.alloc (.cells #[.int .i64 t.1, .int .i64 t.2] 29)).alloc (.cells #[.int .i64 0, .int .i64 0] 29)) a L := hL.grow ((below_new _ _).alloc (by simp) _);have HV := lh (fun c w h => qvalid_yes L ok a c w h);have HOK := lh ok;have HL := lh hL;obtain ⟨Z, hZ⟩ := nm (atP L t);rw [hZ];have HZ := lh hZ;clear ok hL hZ
 by_cases vt : vF t = true
 case neg =>
  have HVT : Hid (validF t.1 t.2 = false) := lh (by have := Bool.not_eq_true _ ▸ vt; exact this);have HR : Hid (Z = (0, 0, 1)) := lh (by rw [← HZ.out]; unfold atP; rw [if_neg vt]);rw [HR.out];clear vt
  go_enter Tryz.func26, Tryz.ntmps26
  go_wp2_with (first
   | (go_at_call 61; (with_reducible refine (HV.out _ _ ?_).mono ?_); (next => exact hL0); rintro e w1 ⟨rfl, hb1⟩; have t0 : w1.cell? ⟨w.heap.size, 0, none⟩ = some (.int .i64 t.1) := (hb1.cell (p := ⟨w.heap.size, 0, none⟩) (by simp <;> omega)).trans (by simp [go_sem, World.cell?_alloc_past]); have t1 : w1.cell? ⟨w.heap.size, 1, none⟩ = some (.int .i64 t.2) := (hb1.cell (p := ⟨w.heap.size, 1, none⟩) (by simp <;> omega)).trans (by simp [go_sem, World.cell?_alloc_past]); have r0 : w1.cell? ⟨w.heap.size + 1, 0, none⟩ = some (.int .i64 0) := (hb1.cell (p := ⟨w.heap.size + 1, 0, none⟩) (by simp <;> omega)).trans (by simp [go_sem]); have r1 : w1.cell? ⟨w.heap.size + 1, 1, none⟩ = some (.int .i64 0) := (hb1.cell (p := ⟨w.heap.size + 1, 1, none⟩) (by simp <;> omega)).trans (by simp [go_sem]); have r2 : w1.frozen? ⟨w.heap.size + 1, 0, none⟩ = false := (hb1.frozen (p := ⟨w.heap.size + 1, 0, none⟩) (by simp <;> omega)).trans (by simp [go_sem]); have r3 : w1.frozen? ⟨w.heap.size + 1, 1, none⟩ = false := (hb1.frozen (p := ⟨w.heap.size + 1, 1, none⟩) (by simp <;> omega)).trans (by simp [go_sem]); have hB1 : Below w.heap.size w w1 := ((below_new w (.cells #[.int .i64 t.1, .int .i64 t.2] 29)).alloc (by simp) (.cells #[.int .i64 0, .int .i64 0] 29)).trans (hb1.mono (by simp <;> omega)); have z1 := wl r0; simp only at z1)
   | (go_at_call 60; (with_reducible refine (valid_any t.1 t.2 _).mono ?_); rintro e w2 ⟨rfl, hb2⟩; rw [HVT.out]; have hB2 := hB1.trans (hb2.mono hB1.size); have T0 := (hb2.cell (p := ⟨w.heap.size, 0, none⟩) (by simp; omega)).trans t0; have T1 := (hb2.cell (p := ⟨w.heap.size, 1, none⟩) (by simp; omega)).trans t1; have R0 := (hb2.cell (p := ⟨w.heap.size + 1, 0, none⟩) z1).trans r0; have R1 := (hb2.cell (p := ⟨w.heap.size + 1, 1, none⟩) z1).trans r1; have R2 := (hb2.frozen (p := ⟨w.heap.size + 1, 0, none⟩) z1).trans r2; have R3 := (hb2.frozen (p := ⟨w.heap.size + 1, 1, none⟩) z1).trans r3; have z2 := wl R0; simp only at z2; have zz : w.heap.size < w2.heap.size := (by omega); clear t0 t1 r0 r1 r2 r3 hb1 hb2))
  have l0 := (two_cells (v0 := .int .i64 0) (v1 := .int .i64 0) R0 R1).1;have l1 := (two_cells (v0 := .int .i64 0) (v1 := .int .i64 0) R0 R1).2;refine bodyPost_ret (v := .tuple #[.agg #[.int .i64 0, .int .i64 0], .int .i64 1]) (by simp [results, Tryz.results26, go_sem, l0, l1]) rfl ⟨rfl, ?_⟩;exact (hB2.setCell (p := ⟨w.heap.size + 1, 0, none⟩) (Nat.le_succ _) _).setCell (p := ⟨w.heap.size + 1, 1, none⟩) (Nat.le_succ _) _
 case pos =>
  have HVT : Hid (validF t.1 t.2 = true) := lh vt;have HTT := lh vt;have HZ2 : Hid (Z = if pieceN L t L.length < 0 then ((pcg L 0).a0, (pcg L 0).a1, 0) else valAt L t (pieceN L t L.length).toNat) := lh (by rw [← HZ.out]; unfold atP; rw [if_pos vt]);clear vt HZ;obtain ⟨kI, hk⟩ := nm (pieceN L t L.length);have hkr := pieceN_range L t L.length;rw [hk] at hkr;have HK := lh hk;rw [hk] at HZ2;clear hk
  by_cases neg : kI < 0
  ·have g : decide (kI < 0) = true := decide_eq_true neg
   rw [if_pos neg] at HZ2;rw [HZ2.out];clear neg;obtain ⟨b, off, rfl, hb, hc⟩ := HL.out (by omega);obtain ⟨c0, c1, c2, c3, c4, c5, c6, c7⟩ := hc 0 (by omega);simp only [Nat.zero_mul, Nat.add_zero] at c2 c3;have HC2 := lh c2;have HC3 := lh c3;clear c0 c1 c2 c3 c4 c5 c6 c7 hc
   go_enter Tryz.func26, Tryz.ntmps26
   go_wp2_with (first
    | (go_at_call 61; (with_reducible refine (HV.out _ _ ?_).mono ?_); (next => exact hL0); rintro e w1 ⟨rfl, hb1⟩; have t0 : w1.cell? ⟨w.heap.size, 0, none⟩ = some (.int .i64 t.1) := (hb1.cell (p := ⟨w.heap.size, 0, none⟩) (by simp <;> omega)).trans (by simp [go_sem, World.cell?_alloc_past]); have t1 : w1.cell? ⟨w.heap.size, 1, none⟩ = some (.int .i64 t.2) := (hb1.cell (p := ⟨w.heap.size, 1, none⟩) (by simp <;> omega)).trans (by simp [go_sem, World.cell?_alloc_past]); have r0 : w1.cell? ⟨w.heap.size + 1, 0, none⟩ = some (.int .i64 0) := (hb1.cell (p := ⟨w.heap.size + 1, 0, none⟩) (by simp <;> omega)).trans (by simp [go_sem]); have r1 : w1.cell? ⟨w.heap.size + 1, 1, none⟩ = some (.int .i64 0) := (hb1.cell (p := ⟨w.heap.size + 1, 1, none⟩) (by simp <;> omega)).trans (by simp [go_sem]); have r2 : w1.frozen? ⟨w.heap.size + 1, 0, none⟩ = false := (hb1.frozen (p := ⟨w.heap.size + 1, 0, none⟩) (by simp <;> omega)).trans (by simp [go_sem]); have r3 : w1.frozen? ⟨w.heap.size + 1, 1, none⟩ = false := (hb1.frozen (p := ⟨w.heap.size + 1, 1, none⟩) (by simp <;> omega)).trans (by simp [go_sem]); have hB1 : Below w.heap.size w w1 := ((below_new w (.cells #[.int .i64 t.1, .int .i64 t.2] 29)).alloc (by simp) (.cells #[.int .i64 0, .int .i64 0] 29)).trans (hb1.mono (by simp <;> omega)); have z1 := wl r0; simp only at z1)
    | (go_at_call 60; (with_reducible refine (valid_any t.1 t.2 _).mono ?_); rintro e w2 ⟨rfl, hb2⟩; rw [HVT.out]; have hB2 := hB1.trans (hb2.mono hB1.size); have T0 := (hb2.cell (p := ⟨w.heap.size, 0, none⟩) (by simp; omega)).trans t0; have T1 := (hb2.cell (p := ⟨w.heap.size, 1, none⟩) (by simp; omega)).trans t1; have R0 := (hb2.cell (p := ⟨w.heap.size + 1, 0, none⟩) z1).trans r0; have R1 := (hb2.cell (p := ⟨w.heap.size + 1, 1, none⟩) z1).trans r1; have R2 := (hb2.frozen (p := ⟨w.heap.size + 1, 0, none⟩) z1).trans r2; have R3 := (hb2.frozen (p := ⟨w.heap.size + 1, 1, none⟩) z1).trans r3; have z2 := wl R0; simp only at z2; have zz : w.heap.size < w2.heap.size := (by omega); clear t0 t1 r0 r1 r2 r3 hb1 hb2)
    | (go_at_call 62; have W20 : Below w2.heap.size w2 (w2.alloc (.cells #[.int .i64 0] 97)) := below_new _ _; have hB3 := hB2.trans (W20.mono hB2.size); (with_reducible refine (piece_any L HOK.out t HTT.out (some ⟨b, off, none⟩) c _ (HL.out.grow hB3)).mono ?_); rw [HK.out]; rintro e w4 ⟨rfl, hb4⟩; have hB4 := hB3.trans (hb4.mono hB3.size); have hb5 := W20.trans (hb4.mono W20.size); have S0 : w4.cell? ⟨w2.heap.size, 0, none⟩ = some (.int .i64 0) := (hb4.cell (p := ⟨w2.heap.size, 0, none⟩) (by simp)).trans (by simp); have S1 : w4.frozen? ⟨w2.heap.size, 0, none⟩ = false := (hb4.frozen (p := ⟨w2.heap.size, 0, none⟩) (by simp)).trans (by simp); have t0 := (hb5.cell (p := ⟨w.heap.size, 0, none⟩) (by simp; omega)).trans T0; have t1 := (hb5.cell (p := ⟨w.heap.size, 1, none⟩) (by simp; omega)).trans T1; have r0 := (hb5.cell (p := ⟨w.heap.size + 1, 0, none⟩) z2).trans R0; have r1 := (hb5.cell (p := ⟨w.heap.size + 1, 1, none⟩) z2).trans R1; have r2 := (hb5.frozen (p := ⟨w.heap.size + 1, 0, none⟩) z2).trans R2; have r3 := (hb5.frozen (p := ⟨w.heap.size + 1, 1, none⟩) z2).trans R3; have hBs4 : w2.heap.size < w4.heap.size := wl S0; have d2 := (hB4.cell (p := ⟨b, off + 2, none⟩) hb).trans HC2.out; have d3 := (hB4.cell (p := ⟨b, off + 3, none⟩) hb).trans HC3.out; clear T0 T1 R0 R1 R2 R3 hb4 hb5 W20 hB3))
   have l0 := (two_cells (v0 := .int .i64 (pcg L 0).a0) (v1 := .int .i64 (pcg L 0).a1) r0 r1).1;have l1 := (two_cells (v0 := .int .i64 (pcg L 0).a0) (v1 := .int .i64 (pcg L 0).a1) r0 r1).2;refine bodyPost_ret (v := .tuple #[.agg #[.int .i64 (pcg L 0).a0, .int .i64 (pcg L 0).a1], .int .i64 0]) (by simp [results, Tryz.results26, go_sem, l0, l1]) rfl ⟨rfl, ?_⟩;exact (hB4.setCell (p := ⟨w.heap.size + 1, 0, none⟩) (Nat.le_succ _) _).setCell (p := ⟨w.heap.size + 1, 1, none⟩) (Nat.le_succ _) _
  ·have g : decide (kI < 0) = false := decide_eq_false neg
   rw [if_neg neg] at HZ2;obtain ⟨i, rfl⟩ := Int.eq_ofNat_of_zero_le (show 0 ≤ kI by omega);rw [Int.toNat_natCast] at HZ2;have hi : i < L.length := by omega
   have hi1 : (i : Int) < (L.length : Int) := by omega
   have hi0 : (0 : Int) ≤ (i : Int) := by omega
   have hok := HOK.out.val i hi;have VF : vF ((pcg L i).f0, (pcg L i).f1) = true := hok.f;have VA : vF ((pcg L i).a0, (pcg L i).a1) = true := hok.a;have VB : vF ((pcg L i).b0, (pcg L i).b1) = true := hok.b;have VC : vF ((pcg L i).c0, (pcg L i).c1) = true := hok.c;obtain ⟨K1, hK1⟩ := nm (kSub 0 t ((pcg L i).f0, (pcg L i).f1));have V1 : vF K1.1 = true := by rw [← hK1]; exact kSub_valid HTT.out VF
   have HC1 : Hid (∀ (Bs : Nat) (w : World), w.cell? ⟨Bs, 0, none⟩ = some (.int .i64 0) → w.frozen? ⟨Bs, 0, none⟩ = false → Calls Tryz.prog 65 #[.pointer (some ⟨Bs, 0, none⟩), .agg #[.int .i64 t.1, .int .i64 t.2], .agg #[.int .i64 (pcg L i).f0, .int .i64 (pcg L i).f1]] w fun z w' => z = .returned (.agg #[.int .i64 K1.1.1, .int .i64 K1.1.2]) ∧ Sm Bs K1.2 w w') := lh fun Bs w h0 h1 => by
    have := ksub_any Bs 0 t ((pcg L i).f0, (pcg L i).f1) HTT.out VF w h0 h1
    rwa [hK1] at this
   obtain ⟨K2, hK2⟩ := nm (kVal K1.2 ((pcg L i).a0, (pcg L i).a1) ((pcg L i).b0, (pcg L i).b1) ((pcg L i).c0, (pcg L i).c1) K1.1)
   have HC2 : Hid (∀ (Bs : Nat) (w : World), w.cell? ⟨Bs, 0, none⟩ = some (.int .i64 K1.2) → w.frozen? ⟨Bs, 0, none⟩ = false → Calls Tryz.prog 64 #[.pointer (some ⟨Bs, 0, none⟩), .agg #[.int .i64 (pcg L i).f0, .int .i64 (pcg L i).f1, .int .i64 (pcg L i).a0, .int .i64 (pcg L i).a1, .int .i64 (pcg L i).b0, .int .i64 (pcg L i).b1, .int .i64 (pcg L i).c0, .int .i64 (pcg L i).c1], .agg #[.int .i64 K1.1.1, .int .i64 K1.1.2]] w fun z w' => z = .returned (.agg #[.int .i64 K2.1.1, .int .i64 K2.1.2]) ∧ Sm Bs K2.2 w w') := lh fun Bs w h0 h1 => by
    have := qvalue_any Bs K1.2 ((pcg L i).f0, (pcg L i).f1) ((pcg L i).a0, (pcg L i).a1) ((pcg L i).b0, (pcg L i).b1) ((pcg L i).c0, (pcg L i).c1) K1.1 VA VB VC V1 w h0 h1
    rwa [hK2] at this
   have HR : Hid (Z = (if K2.2 = 0 then K2.1.1 else 0, if K2.2 = 0 then K2.1.2 else 0, K2.2)) := lh (by rw [HZ2.out]; unfold valAt; simp only [hK1, hK2]; rfl);obtain ⟨q1, hq1⟩ := nm ((if K2.2 = 0 then K2.1.1 else 0));obtain ⟨q2, hq2⟩ := nm ((if K2.2 = 0 then K2.1.2 else 0))
   have HC3 : Hid (∀ (Bs : Nat) (w : World), w.cell? ⟨Bs, 0, none⟩ = some (.int .i64 K2.2) → Calls Tryz.prog 63 #[.pointer (some ⟨Bs, 0, none⟩), .agg #[.int .i64 K2.1.1, .int .i64 K2.1.2]] w fun z w' => z = .returned (.tuple #[.agg #[.int .i64 q1, .int .i64 q2], .int .i64 K2.2]) ∧ Below w.heap.size w w') := lh fun Bs w h0 => by
    have := qresult_any Bs K2.2 K2.1 w h0
    rwa [hq1, hq2] at this
   rw [hq1, hq2] at HR;rw [HR.out];clear hq1 hq2 hK1 hK2 V1 VF VA VB VC hok HZ2 neg;obtain ⟨b, off, rfl, hb, hc⟩ := HL.out (by omega);obtain ⟨c0, c1, c2, c3, c4, c5, c6, c7⟩ := hc i hi;have HC := lh (hc i hi);clear hc c0 c1 c2 c3 c4 c5 c6 c7
   go_enter Tryz.func26, Tryz.ntmps26
   go_upto_region 7 with (first
    | (go_at_call 61; (with_reducible refine (HV.out _ _ ?_).mono ?_); (next => exact hL0); rintro e w1 ⟨rfl, hb1⟩; have t0 : w1.cell? ⟨w.heap.size, 0, none⟩ = some (.int .i64 t.1) := (hb1.cell (p := ⟨w.heap.size, 0, none⟩) (by simp <;> omega)).trans (by simp [go_sem, World.cell?_alloc_past]); have t1 : w1.cell? ⟨w.heap.size, 1, none⟩ = some (.int .i64 t.2) := (hb1.cell (p := ⟨w.heap.size, 1, none⟩) (by simp <;> omega)).trans (by simp [go_sem, World.cell?_alloc_past]); have r0 : w1.cell? ⟨w.heap.size + 1, 0, none⟩ = some (.int .i64 0) := (hb1.cell (p := ⟨w.heap.size + 1, 0, none⟩) (by simp <;> omega)).trans (by simp [go_sem]); have r1 : w1.cell? ⟨w.heap.size + 1, 1, none⟩ = some (.int .i64 0) := (hb1.cell (p := ⟨w.heap.size + 1, 1, none⟩) (by simp <;> omega)).trans (by simp [go_sem]); have r2 : w1.frozen? ⟨w.heap.size + 1, 0, none⟩ = false := (hb1.frozen (p := ⟨w.heap.size + 1, 0, none⟩) (by simp <;> omega)).trans (by simp [go_sem]); have r3 : w1.frozen? ⟨w.heap.size + 1, 1, none⟩ = false := (hb1.frozen (p := ⟨w.heap.size + 1, 1, none⟩) (by simp <;> omega)).trans (by simp [go_sem]); have hB1 : Below w.heap.size w w1 := ((below_new w (.cells #[.int .i64 t.1, .int .i64 t.2] 29)).alloc (by simp) (.cells #[.int .i64 0, .int .i64 0] 29)).trans (hb1.mono (by simp <;> omega)); have z1 := wl r0; simp only at z1)
    | (go_at_call 60; (with_reducible refine (valid_any t.1 t.2 _).mono ?_); rintro e w2 ⟨rfl, hb2⟩; rw [HVT.out]; have hB2 := hB1.trans (hb2.mono hB1.size); have T0 := (hb2.cell (p := ⟨w.heap.size, 0, none⟩) (by simp; omega)).trans t0; have T1 := (hb2.cell (p := ⟨w.heap.size, 1, none⟩) (by simp; omega)).trans t1; have R0 := (hb2.cell (p := ⟨w.heap.size + 1, 0, none⟩) z1).trans r0; have R1 := (hb2.cell (p := ⟨w.heap.size + 1, 1, none⟩) z1).trans r1; have R2 := (hb2.frozen (p := ⟨w.heap.size + 1, 0, none⟩) z1).trans r2; have R3 := (hb2.frozen (p := ⟨w.heap.size + 1, 1, none⟩) z1).trans r3; have z2 := wl R0; simp only at z2; have zz : w.heap.size < w2.heap.size := (by omega); clear t0 t1 r0 r1 r2 r3 hb1 hb2)
    | (go_at_call 62; have W20 : Below w2.heap.size w2 (w2.alloc (.cells #[.int .i64 0] 97)) := below_new _ _; have hB3 := hB2.trans (W20.mono hB2.size); (with_reducible refine (piece_any L HOK.out t HTT.out (some ⟨b, off, none⟩) c _ (HL.out.grow hB3)).mono ?_); rw [HK.out]; rintro e w4 ⟨rfl, hb4⟩; have hB4 := hB3.trans (hb4.mono hB3.size); have hb5 := W20.trans (hb4.mono W20.size); have S0 : w4.cell? ⟨w2.heap.size, 0, none⟩ = some (.int .i64 0) := (hb4.cell (p := ⟨w2.heap.size, 0, none⟩) (by simp)).trans (by simp); have S1 : w4.frozen? ⟨w2.heap.size, 0, none⟩ = false := (hb4.frozen (p := ⟨w2.heap.size, 0, none⟩) (by simp)).trans (by simp); have t0 := (hb5.cell (p := ⟨w.heap.size, 0, none⟩) (by simp; omega)).trans T0; have t1 := (hb5.cell (p := ⟨w.heap.size, 1, none⟩) (by simp; omega)).trans T1; have r0 := (hb5.cell (p := ⟨w.heap.size + 1, 0, none⟩) z2).trans R0; have r1 := (hb5.cell (p := ⟨w.heap.size + 1, 1, none⟩) z2).trans R1; have r2 := (hb5.frozen (p := ⟨w.heap.size + 1, 0, none⟩) z2).trans R2; have r3 := (hb5.frozen (p := ⟨w.heap.size + 1, 1, none⟩) z2).trans R3; have hBs4 : w2.heap.size < w4.heap.size := wl S0; clear T0 T1 R0 R1 R2 R3 hb4 hb5 W20 hB3))
   have T0 := t0;have T1 := t1;have R0 := r0;have R1 := r1;have R2 := r2;have R3 := r3;clear t0 t1 r0 r1 r2 r3;obtain ⟨Bs, hBB⟩ := nm (w2.heap.size);simp only [hBB] at S0 S1 hBs4 z2 ⊢;clear hBB;generalize w4 = W0 at *;obtain ⟨c0, c1, c2, c3, c4, c5, c6, c7⟩ := HC.out;have d0 := (hB4.cell (p := ⟨b, off + i * 8, none⟩) hb).trans c0;have d1 := (hB4.cell (p := ⟨b, off + i * 8 + 1, none⟩) hb).trans c1;have d2 := (hB4.cell (p := ⟨b, off + i * 8 + 2, none⟩) hb).trans c2;have d3 := (hB4.cell (p := ⟨b, off + i * 8 + 3, none⟩) hb).trans c3;have d4 := (hB4.cell (p := ⟨b, off + i * 8 + 4, none⟩) hb).trans c4;have d5 := (hB4.cell (p := ⟨b, off + i * 8 + 5, none⟩) hb).trans c5;have d6 := (hB4.cell (p := ⟨b, off + i * 8 + 6, none⟩) hb).trans c6;have d7 := (hB4.cell (p := ⟨b, off + i * 8 + 7, none⟩) hb).trans c7;clear c0 c1 c2 c3 c4 c5 c6 c7
   have HX : Hid (∀ x w', Sm Bs x W0 w' → W0.heap.size ≤ w'.heap.size ∧ w'.cell? ⟨b, off + i * 8, none⟩ = some (.int .i64 (pcg L i).f0) ∧ w'.cell? ⟨b, off + i * 8 + 1, none⟩ = some (.int .i64 (pcg L i).f1) ∧ w'.cell? ⟨b, off + i * 8 + 2, none⟩ = some (.int .i64 (pcg L i).a0) ∧ w'.cell? ⟨b, off + i * 8 + 3, none⟩ = some (.int .i64 (pcg L i).a1) ∧ w'.cell? ⟨b, off + i * 8 + 4, none⟩ = some (.int .i64 (pcg L i).b0) ∧ w'.cell? ⟨b, off + i * 8 + 5, none⟩ = some (.int .i64 (pcg L i).b1) ∧ w'.cell? ⟨b, off + i * 8 + 6, none⟩ = some (.int .i64 (pcg L i).c0) ∧ w'.cell? ⟨b, off + i * 8 + 7, none⟩ = some (.int .i64 (pcg L i).c1) ∧ w'.cell? ⟨w.heap.size, 0, none⟩ = some (.int .i64 t.1) ∧ w'.cell? ⟨w.heap.size, 1, none⟩ = some (.int .i64 t.2)) := lh fun x w' h =>
    ⟨h.size, (h.other (p := ⟨b, off + i * 8, none⟩) (by simp; omega) (by simp; omega)).trans d0, (h.other (p := ⟨b, off + i * 8 + 1, none⟩) (by simp; omega) (by simp; omega)).trans d1, (h.other (p := ⟨b, off + i * 8 + 2, none⟩) (by simp; omega) (by simp; omega)).trans d2, (h.other (p := ⟨b, off + i * 8 + 3, none⟩) (by simp; omega) (by simp; omega)).trans d3, (h.other (p := ⟨b, off + i * 8 + 4, none⟩) (by simp; omega) (by simp; omega)).trans d4, (h.other (p := ⟨b, off + i * 8 + 5, none⟩) (by simp; omega) (by simp; omega)).trans d5, (h.other (p := ⟨b, off + i * 8 + 6, none⟩) (by simp; omega) (by simp; omega)).trans d6, (h.other (p := ⟨b, off + i * 8 + 7, none⟩) (by simp; omega) (by simp; omega)).trans d7, (h.other (p := ⟨w.heap.size, 0, none⟩) (by simp; omega) (by simp; omega)).trans T0, (h.other (p := ⟨w.heap.size, 1, none⟩) (by simp; omega) (by simp; omega)).trans T1⟩
   have HY : Hid (∀ x w', Sm Bs x W0 w' → w'.cell? ⟨w.heap.size + 1, 0, none⟩ = some (.int .i64 0) ∧ w'.cell? ⟨w.heap.size + 1, 1, none⟩ = some (.int .i64 0) ∧ w'.frozen? ⟨w.heap.size + 1, 0, none⟩ = false ∧ w'.frozen? ⟨w.heap.size + 1, 1, none⟩ = false) := lh fun x w' h =>
    ⟨(h.other (p := ⟨w.heap.size + 1, 0, none⟩) (by simp; omega) (by simp; omega)).trans R0, (h.other (p := ⟨w.heap.size + 1, 1, none⟩) (by simp; omega) (by simp; omega)).trans R1, (h.otherF (p := ⟨w.heap.size + 1, 0, none⟩) (by simp; omega) (by simp; omega)).trans R2, (h.otherF (p := ⟨w.heap.size + 1, 1, none⟩) (by simp; omega) (by simp; omega)).trans R3⟩
   have HZs : Hid (∀ x w', Sm Bs x W0 w' → ∀ v0 v1, (fun w' => W0.heap.size ≤ w'.heap.size ∧ w'.cell? ⟨b, off + i * 8, none⟩ = some (.int .i64 (pcg L i).f0) ∧ w'.cell? ⟨b, off + i * 8 + 1, none⟩ = some (.int .i64 (pcg L i).f1) ∧ w'.cell? ⟨b, off + i * 8 + 2, none⟩ = some (.int .i64 (pcg L i).a0) ∧ w'.cell? ⟨b, off + i * 8 + 3, none⟩ = some (.int .i64 (pcg L i).a1) ∧ w'.cell? ⟨b, off + i * 8 + 4, none⟩ = some (.int .i64 (pcg L i).b0) ∧ w'.cell? ⟨b, off + i * 8 + 5, none⟩ = some (.int .i64 (pcg L i).b1) ∧ w'.cell? ⟨b, off + i * 8 + 6, none⟩ = some (.int .i64 (pcg L i).c0) ∧ w'.cell? ⟨b, off + i * 8 + 7, none⟩ = some (.int .i64 (pcg L i).c1) ∧ w'.cell? ⟨w.heap.size, 0, none⟩ = some (.int .i64 t.1) ∧ w'.cell? ⟨w.heap.size, 1, none⟩ = some (.int .i64 t.2)) ((w'.setCell ⟨w.heap.size + 1, 0, none⟩ v0).setCell ⟨w.heap.size + 1, 1, none⟩ v1)) := lh fun x w' h v0 v1 => by
    obtain ⟨h0, h1, h2, h3, h4, h5, h6, h7, h8, h9, h10⟩ := HX.out x w' h;refine ⟨by simpa using h0, ?_, ?_, ?_, ?_, ?_, ?_, ?_, ?_, ?_, ?_⟩
    all_goals (refine (two_other (by omega) _ _ _).trans ?_; assumption)
   have hsd : Sm Bs 0 W0 W0.drew := (Sm.refl S0 S1).drew;clear S0 S1 T0 T1 R0 R1 R2 R3 d0 d1 d2 d3 d4 d5 d6 d7;refine wp_region_held_drew (S := (fun w' => W0.heap.size ≤ w'.heap.size ∧ w'.cell? ⟨b, off + i * 8, none⟩ = some (.int .i64 (pcg L i).f0) ∧ w'.cell? ⟨b, off + i * 8 + 1, none⟩ = some (.int .i64 (pcg L i).f1) ∧ w'.cell? ⟨b, off + i * 8 + 2, none⟩ = some (.int .i64 (pcg L i).a0) ∧ w'.cell? ⟨b, off + i * 8 + 3, none⟩ = some (.int .i64 (pcg L i).a1) ∧ w'.cell? ⟨b, off + i * 8 + 4, none⟩ = some (.int .i64 (pcg L i).b0) ∧ w'.cell? ⟨b, off + i * 8 + 5, none⟩ = some (.int .i64 (pcg L i).b1) ∧ w'.cell? ⟨b, off + i * 8 + 6, none⟩ = some (.int .i64 (pcg L i).c0) ∧ w'.cell? ⟨b, off + i * 8 + 7, none⟩ = some (.int .i64 (pcg L i).c1) ∧ w'.cell? ⟨w.heap.size, 0, none⟩ = some (.int .i64 t.1) ∧ w'.cell? ⟨w.heap.size, 1, none⟩ = some (.int .i64 t.2))) (by kernel_rfl) (HX.out _ _ hsd) (fun hHeld => ?_);refine tkB 0 ?_;simp only [Act.put, s_1, s_2, s_3, s_4, s_6];refine tkB 1 ?_;simp only [Act.put, s_1, s_2, s_3, s_4, s_5, s_6];refine tkB 2 ?_;simp only [Act.put, s_1, s_2, s_3, s_4, s_5, s_6];refine tkB 3 ?_;simp only [Act.put, s_1, s_2, s_3, s_4, s_5, s_6];refine tkB 4 ?_;simp only [Act.put, s_1, s_2, s_3, s_4, s_5, s_6];refine tkB 5 ?_;simp only [Act.put, s_1, s_2, s_3, s_4, s_5, s_6];refine tkB 6 ?_;simp only [Act.put, s_1, s_2, s_3, s_4, s_5, s_6];refine tkB 7 ?_;simp only [Act.put, s_1, s_2, s_3, s_4, s_5, s_6];refine tkB 8 ?_;simp only [Act.put, s_1, s_2, s_3, s_4, s_5, s_6];refine tkB 9 ?_;simp only [Act.put, s_1, s_2, s_3, s_4, s_5, s_6];refine tkB 10 ?_;simp only [Act.put, s_1, s_2, s_3, s_4, s_5, s_6];refine tkB 11 ?_;simp only [Act.put, s_1, s_2, s_3, s_4, s_5, s_6];refine tkB 12 ?_;simp only [Act.put, s_1, s_2, s_3, s_4, s_5, s_6];refine r1 13 (fun K hK => ?_)
   try simp only [s_4, s_5, s_6]
   go_simp
   (go_at_call 65; go_split_ands; (with_reducible refine (HC1.out _ _ hsd.cell hsd.free).mono ?_); rintro z w5 ⟨rfl, ht1⟩; have hs1 := hsd.trans ht1)
   go_wp2_with fail
   refine hK.out _ _ (HX.out _ _ hs1) (fun hHeld => ?_);clear hK K
   try simp only [Act.put, s_1, s_2, s_3, s_4, s_5, s_6]
   refine r1 14 (fun K hK => ?_)
   try simp only [s_4, s_5, s_6]
   go_simp
   (go_at_call 64; go_split_ands; (with_reducible refine (HC2.out _ _ hs1.cell hs1.free).mono ?_); rintro z w6 ⟨rfl, ht2⟩; have hs2 := hs1.trans ht2)
   go_wp2_with fail
   refine hK.out _ _ (HX.out _ _ hs2) (fun hHeld => ?_);clear hK K
   try simp only [Act.put, s_1, s_2, s_3, s_4, s_5, s_6]
   refine r1 15 (fun K hK => ?_)
   try simp only [s_4, s_5, s_6]
   go_simp
   (go_at_call 63; go_split_ands; (with_reducible refine (HC3.out _ _ hs2.cell).mono ?_); rintro z w7 ⟨rfl, hb7⟩; have hs3 := hs2.then hb7)
   go_wp2_with fail
   refine hK.out _ _ (HX.out _ _ hs3) (fun hHeld => ?_);clear hK K
   try simp only [Act.put, s_1, s_2, s_3, s_4, s_5, s_6]
   refine tkB 16 ?_;simp only [Act.put, s_1, s_2, s_3, s_4, s_5, s_6];refine tkB 17 ?_;simp only [Act.put, s_1, s_2, s_3, s_4, s_5, s_6];refine r1 18 (fun K hK => ?_);go_split_ands;obtain ⟨g0, g1, g2, g3⟩ := HY.out _ _ hs3
   try simp only [s_4, s_5, s_6]
   go_wp2_with fail
   refine hK.out _ _ (HZs.out _ _ hs3 _ _) (fun hHeld => ?_);clear hK K
   try simp only [Act.put, s_1, s_2, s_3, s_4, s_5, s_6]
   refine tkB 19 ?_;simp only [Act.put, s_1, s_2, s_3, s_4, s_5, s_6];refine wpAnyH_done (by kernel_rfl) ?_ _
   go_wp2_with fail
   have l0 := (two_cells (v0 := .int .i64 q1) (v1 := .int .i64 q2) g0 g1).1;have l1 := (two_cells (v0 := .int .i64 q1) (v1 := .int .i64 q2) g0 g1).2;refine bodyPost_ret (v := .tuple #[.agg #[.int .i64 q1, .int .i64 q2], .int .i64 K2.2]) (by simp [results, Tryz.results26, go_sem, l0, l1]) rfl ⟨rfl, ?_⟩;have hB5 := hB4.trans (hs3.below (n := w.heap.size) (by omega) (by omega));exact (hB5.setCell (p := ⟨w.heap.size + 1, 0, none⟩) (Nat.le_succ _) _).setCell (p := ⟨w.heap.size + 1, 1, none⟩) (Nat.le_succ _) _
theorem qslopeAt_any (L : List Pc) (ok : CurveOK L) (t : Int × Int) (a : Option Addr) (c : Nat) (w : World) (hL : Pcs w.heap.size w a L) :
  Calls Tryz.prog 27 #[.slice a L.length c, .agg #[.int .i64 t.1, .int .i64 t.2]] w fun e w' => e = .returned (.tuple #[.agg #[.int .i64 (slopeP L t).1, .int .i64 (slopeP L t).2.1], .int .i64 (slopeP L t).2.2]) ∧ Below w.heap.size w w' := by
 have hpos := ok.pos;have hlen := ok.len;have hL0 : Pcs ((w.alloc (.cells #[.int .i64 t.1, .int .i64 t.2] 29)).alloc (.cells #[.int .i64 0, .int .i64 0] 29)).heap.size ((w.alloc (.cells #[.int .i64 t.1, .int .i64 t.2] 29)).alloc (.cells #[.int .i64 0, .int .i64 0] 29)) a L := hL.grow ((below_new _ _).alloc (by simp) _);have HV := lh (fun c w h => qvalid_yes L ok a c w h);have HOK := lh ok;have HL := lh hL;obtain ⟨Z, hZ⟩ := nm (slopeP L t);rw [hZ];have HZ := lh hZ;clear ok hL hZ
 by_cases vt : vF t = true
 case neg =>
  have HVT : Hid (validF t.1 t.2 = false) := lh (by have := Bool.not_eq_true _ ▸ vt; exact this);have HR : Hid (Z = (0, 0, 1)) := lh (by rw [← HZ.out]; unfold slopeP; rw [if_neg vt]);rw [HR.out];clear vt
  go_enter Tryz.func27, Tryz.ntmps27
  go_wp2_with (first
   | (go_at_call 61; (with_reducible refine (HV.out _ _ ?_).mono ?_); (next => exact hL0); rintro e w1 ⟨rfl, hb1⟩; have t0 : w1.cell? ⟨w.heap.size, 0, none⟩ = some (.int .i64 t.1) := (hb1.cell (p := ⟨w.heap.size, 0, none⟩) (by simp <;> omega)).trans (by simp [go_sem, World.cell?_alloc_past]); have t1 : w1.cell? ⟨w.heap.size, 1, none⟩ = some (.int .i64 t.2) := (hb1.cell (p := ⟨w.heap.size, 1, none⟩) (by simp <;> omega)).trans (by simp [go_sem, World.cell?_alloc_past]); have r0 : w1.cell? ⟨w.heap.size + 1, 0, none⟩ = some (.int .i64 0) := (hb1.cell (p := ⟨w.heap.size + 1, 0, none⟩) (by simp <;> omega)).trans (by simp [go_sem]); have r1 : w1.cell? ⟨w.heap.size + 1, 1, none⟩ = some (.int .i64 0) := (hb1.cell (p := ⟨w.heap.size + 1, 1, none⟩) (by simp <;> omega)).trans (by simp [go_sem]); have r2 : w1.frozen? ⟨w.heap.size + 1, 0, none⟩ = false := (hb1.frozen (p := ⟨w.heap.size + 1, 0, none⟩) (by simp <;> omega)).trans (by simp [go_sem]); have r3 : w1.frozen? ⟨w.heap.size + 1, 1, none⟩ = false := (hb1.frozen (p := ⟨w.heap.size + 1, 1, none⟩) (by simp <;> omega)).trans (by simp [go_sem]); have hB1 : Below w.heap.size w w1 := ((below_new w (.cells #[.int .i64 t.1, .int .i64 t.2] 29)).alloc (by simp) (.cells #[.int .i64 0, .int .i64 0] 29)).trans (hb1.mono (by simp <;> omega)); have z1 := wl r0; simp only at z1)
   | (go_at_call 60; (with_reducible refine (valid_any t.1 t.2 _).mono ?_); rintro e w2 ⟨rfl, hb2⟩; rw [HVT.out]; have hB2 := hB1.trans (hb2.mono hB1.size); have T0 := (hb2.cell (p := ⟨w.heap.size, 0, none⟩) (by simp; omega)).trans t0; have T1 := (hb2.cell (p := ⟨w.heap.size, 1, none⟩) (by simp; omega)).trans t1; have R0 := (hb2.cell (p := ⟨w.heap.size + 1, 0, none⟩) z1).trans r0; have R1 := (hb2.cell (p := ⟨w.heap.size + 1, 1, none⟩) z1).trans r1; have R2 := (hb2.frozen (p := ⟨w.heap.size + 1, 0, none⟩) z1).trans r2; have R3 := (hb2.frozen (p := ⟨w.heap.size + 1, 1, none⟩) z1).trans r3; have z2 := wl R0; simp only at z2; have zz : w.heap.size < w2.heap.size := (by omega); clear t0 t1 r0 r1 r2 r3 hb1 hb2))
  have l0 := (two_cells (v0 := .int .i64 0) (v1 := .int .i64 0) R0 R1).1;have l1 := (two_cells (v0 := .int .i64 0) (v1 := .int .i64 0) R0 R1).2;refine bodyPost_ret (v := .tuple #[.agg #[.int .i64 0, .int .i64 0], .int .i64 1]) (by simp [results, Tryz.results27, go_sem, l0, l1]) rfl ⟨rfl, ?_⟩;exact (hB2.setCell (p := ⟨w.heap.size + 1, 0, none⟩) (Nat.le_succ _) _).setCell (p := ⟨w.heap.size + 1, 1, none⟩) (Nat.le_succ _) _
 case pos =>
  have HVT : Hid (validF t.1 t.2 = true) := lh vt;have HTT := lh vt;have HZ2 : Hid (Z = if pieceN L t L.length < 0 then (0, 1, 0) else slopeAt L t (pieceN L t L.length).toNat) := lh (by rw [← HZ.out]; unfold slopeP; rw [if_pos vt]);clear vt HZ;obtain ⟨kI, hk⟩ := nm (pieceN L t L.length);have hkr := pieceN_range L t L.length;rw [hk] at hkr;have HK := lh hk;rw [hk] at HZ2;clear hk
  by_cases neg : kI < 0
  ·have g : decide (kI < 0) = true := decide_eq_true neg
   rw [if_pos neg] at HZ2;rw [HZ2.out];clear neg
   go_enter Tryz.func27, Tryz.ntmps27
   go_wp2_with (first
    | (go_at_call 61; (with_reducible refine (HV.out _ _ ?_).mono ?_); (next => exact hL0); rintro e w1 ⟨rfl, hb1⟩; have t0 : w1.cell? ⟨w.heap.size, 0, none⟩ = some (.int .i64 t.1) := (hb1.cell (p := ⟨w.heap.size, 0, none⟩) (by simp <;> omega)).trans (by simp [go_sem, World.cell?_alloc_past]); have t1 : w1.cell? ⟨w.heap.size, 1, none⟩ = some (.int .i64 t.2) := (hb1.cell (p := ⟨w.heap.size, 1, none⟩) (by simp <;> omega)).trans (by simp [go_sem, World.cell?_alloc_past]); have r0 : w1.cell? ⟨w.heap.size + 1, 0, none⟩ = some (.int .i64 0) := (hb1.cell (p := ⟨w.heap.size + 1, 0, none⟩) (by simp <;> omega)).trans (by simp [go_sem]); have r1 : w1.cell? ⟨w.heap.size + 1, 1, none⟩ = some (.int .i64 0) := (hb1.cell (p := ⟨w.heap.size + 1, 1, none⟩) (by simp <;> omega)).trans (by simp [go_sem]); have r2 : w1.frozen? ⟨w.heap.size + 1, 0, none⟩ = false := (hb1.frozen (p := ⟨w.heap.size + 1, 0, none⟩) (by simp <;> omega)).trans (by simp [go_sem]); have r3 : w1.frozen? ⟨w.heap.size + 1, 1, none⟩ = false := (hb1.frozen (p := ⟨w.heap.size + 1, 1, none⟩) (by simp <;> omega)).trans (by simp [go_sem]); have hB1 : Below w.heap.size w w1 := ((below_new w (.cells #[.int .i64 t.1, .int .i64 t.2] 29)).alloc (by simp) (.cells #[.int .i64 0, .int .i64 0] 29)).trans (hb1.mono (by simp <;> omega)); have z1 := wl r0; simp only at z1)
    | (go_at_call 60; (with_reducible refine (valid_any t.1 t.2 _).mono ?_); rintro e w2 ⟨rfl, hb2⟩; rw [HVT.out]; have hB2 := hB1.trans (hb2.mono hB1.size); have T0 := (hb2.cell (p := ⟨w.heap.size, 0, none⟩) (by simp; omega)).trans t0; have T1 := (hb2.cell (p := ⟨w.heap.size, 1, none⟩) (by simp; omega)).trans t1; have R0 := (hb2.cell (p := ⟨w.heap.size + 1, 0, none⟩) z1).trans r0; have R1 := (hb2.cell (p := ⟨w.heap.size + 1, 1, none⟩) z1).trans r1; have R2 := (hb2.frozen (p := ⟨w.heap.size + 1, 0, none⟩) z1).trans r2; have R3 := (hb2.frozen (p := ⟨w.heap.size + 1, 1, none⟩) z1).trans r3; have z2 := wl R0; simp only at z2; have zz : w.heap.size < w2.heap.size := (by omega); clear t0 t1 r0 r1 r2 r3 hb1 hb2)
    | (go_at_call 62; have W20 : Below w2.heap.size w2 (w2.alloc (.cells #[.int .i64 0] 97)) := below_new _ _; have hB3 := hB2.trans (W20.mono hB2.size); (with_reducible refine (piece_any L HOK.out t HTT.out a c _ (HL.out.grow hB3)).mono ?_); rw [HK.out]; rintro e w4 ⟨rfl, hb4⟩; have hB4 := hB3.trans (hb4.mono hB3.size); have hb5 := W20.trans (hb4.mono W20.size); have S0 : w4.cell? ⟨w2.heap.size, 0, none⟩ = some (.int .i64 0) := (hb4.cell (p := ⟨w2.heap.size, 0, none⟩) (by simp)).trans (by simp); have S1 : w4.frozen? ⟨w2.heap.size, 0, none⟩ = false := (hb4.frozen (p := ⟨w2.heap.size, 0, none⟩) (by simp)).trans (by simp); have t0 := (hb5.cell (p := ⟨w.heap.size, 0, none⟩) (by simp; omega)).trans T0; have t1 := (hb5.cell (p := ⟨w.heap.size, 1, none⟩) (by simp; omega)).trans T1; have r0 := (hb5.cell (p := ⟨w.heap.size + 1, 0, none⟩) z2).trans R0; have r1 := (hb5.cell (p := ⟨w.heap.size + 1, 1, none⟩) z2).trans R1; have r2 := (hb5.frozen (p := ⟨w.heap.size + 1, 0, none⟩) z2).trans R2; have r3 := (hb5.frozen (p := ⟨w.heap.size + 1, 1, none⟩) z2).trans R3; have hBs4 : w2.heap.size < w4.heap.size := wl S0; clear T0 T1 R0 R1 R2 R3 hb4 hb5 W20 hB3)
    | (go_at_call 66; (with_reducible refine (qzero_any _).mono ?_); rintro x w5 ⟨rfl, hb5⟩; have R0 := (hb5.cell (p := ⟨w.heap.size + 1, 0, none⟩) (by simp; omega)).trans r0; have R1 := (hb5.cell (p := ⟨w.heap.size + 1, 1, none⟩) (by simp; omega)).trans r1; have R2 := (hb5.frozen (p := ⟨w.heap.size + 1, 0, none⟩) (by simp; omega)).trans r2; have R3 := (hb5.frozen (p := ⟨w.heap.size + 1, 1, none⟩) (by simp; omega)).trans r3))
   have l0 := (two_cells (v0 := .int .i64 0) (v1 := .int .i64 1) R0 R1).1;have l1 := (two_cells (v0 := .int .i64 0) (v1 := .int .i64 1) R0 R1).2;refine bodyPost_ret (v := .tuple #[.agg #[.int .i64 0, .int .i64 1], .int .i64 0]) (by simp [results, Tryz.results27, go_sem, l0, l1]) rfl ⟨rfl, ?_⟩;have hB5 := hB4.trans (hb5.mono hB4.size);exact (hB5.setCell (p := ⟨w.heap.size + 1, 0, none⟩) (Nat.le_succ _) _).setCell (p := ⟨w.heap.size + 1, 1, none⟩) (Nat.le_succ _) _
  ·have g : decide (kI < 0) = false := decide_eq_false neg
   rw [if_neg neg] at HZ2;obtain ⟨i, rfl⟩ := Int.eq_ofNat_of_zero_le (show 0 ≤ kI by omega);rw [Int.toNat_natCast] at HZ2;have hi : i < L.length := by omega
   have hi1 : (i : Int) < (L.length : Int) := by omega
   have hi0 : (0 : Int) ≤ (i : Int) := by omega
   have hok := HOK.out.val i hi;have VF : vF ((pcg L i).f0, (pcg L i).f1) = true := hok.f;have VA : vF ((pcg L i).a0, (pcg L i).a1) = true := hok.a;have VB : vF ((pcg L i).b0, (pcg L i).b1) = true := hok.b;have VC : vF ((pcg L i).c0, (pcg L i).c1) = true := hok.c;obtain ⟨K1, hK1⟩ := nm (kSub 0 t ((pcg L i).f0, (pcg L i).f1));have V1 : vF K1.1 = true := by rw [← hK1]; exact kSub_valid HTT.out VF
   have HC1 : Hid (∀ (Bs : Nat) (w : World), w.cell? ⟨Bs, 0, none⟩ = some (.int .i64 0) → w.frozen? ⟨Bs, 0, none⟩ = false → Calls Tryz.prog 65 #[.pointer (some ⟨Bs, 0, none⟩), .agg #[.int .i64 t.1, .int .i64 t.2], .agg #[.int .i64 (pcg L i).f0, .int .i64 (pcg L i).f1]] w fun z w' => z = .returned (.agg #[.int .i64 K1.1.1, .int .i64 K1.1.2]) ∧ Sm Bs K1.2 w w') := lh fun Bs w h0 h1 => by
    have := ksub_any Bs 0 t ((pcg L i).f0, (pcg L i).f1) HTT.out VF w h0 h1
    rwa [hK1] at this
   obtain ⟨K2, hK2⟩ := nm (kSlope K1.2 ((pcg L i).b0, (pcg L i).b1) ((pcg L i).c0, (pcg L i).c1) K1.1)
   have HC2 : Hid (∀ (Bs : Nat) (w : World), w.cell? ⟨Bs, 0, none⟩ = some (.int .i64 K1.2) → w.frozen? ⟨Bs, 0, none⟩ = false → Calls Tryz.prog 67 #[.pointer (some ⟨Bs, 0, none⟩), .agg #[.int .i64 (pcg L i).f0, .int .i64 (pcg L i).f1, .int .i64 (pcg L i).a0, .int .i64 (pcg L i).a1, .int .i64 (pcg L i).b0, .int .i64 (pcg L i).b1, .int .i64 (pcg L i).c0, .int .i64 (pcg L i).c1], .agg #[.int .i64 K1.1.1, .int .i64 K1.1.2]] w fun z w' => z = .returned (.agg #[.int .i64 K2.1.1, .int .i64 K2.1.2]) ∧ Sm Bs K2.2 w w') := lh fun Bs w h0 h1 => by
    have := qslope_any Bs K1.2 ((pcg L i).f0, (pcg L i).f1) ((pcg L i).a0, (pcg L i).a1) ((pcg L i).b0, (pcg L i).b1) ((pcg L i).c0, (pcg L i).c1) K1.1 VB VC V1 w h0 h1
    rwa [hK2] at this
   have HR : Hid (Z = (if K2.2 = 0 then K2.1.1 else 0, if K2.2 = 0 then K2.1.2 else 0, K2.2)) := lh (by rw [HZ2.out]; unfold slopeAt; simp only [hK1, hK2]; rfl);obtain ⟨q1, hq1⟩ := nm ((if K2.2 = 0 then K2.1.1 else 0));obtain ⟨q2, hq2⟩ := nm ((if K2.2 = 0 then K2.1.2 else 0))
   have HC3 : Hid (∀ (Bs : Nat) (w : World), w.cell? ⟨Bs, 0, none⟩ = some (.int .i64 K2.2) → Calls Tryz.prog 63 #[.pointer (some ⟨Bs, 0, none⟩), .agg #[.int .i64 K2.1.1, .int .i64 K2.1.2]] w fun z w' => z = .returned (.tuple #[.agg #[.int .i64 q1, .int .i64 q2], .int .i64 K2.2]) ∧ Below w.heap.size w w') := lh fun Bs w h0 => by
    have := qresult_any Bs K2.2 K2.1 w h0
    rwa [hq1, hq2] at this
   rw [hq1, hq2] at HR;rw [HR.out];clear hq1 hq2 hK1 hK2 V1 VF VA VB VC hok HZ2 neg;obtain ⟨b, off, rfl, hb, hc⟩ := HL.out (by omega);obtain ⟨c0, c1, c2, c3, c4, c5, c6, c7⟩ := hc i hi;have HC := lh (hc i hi);clear hc c0 c1 c2 c3 c4 c5 c6 c7
   go_enter Tryz.func27, Tryz.ntmps27
   go_upto_region 7 with (first
    | (go_at_call 61; (with_reducible refine (HV.out _ _ ?_).mono ?_); (next => exact hL0); rintro e w1 ⟨rfl, hb1⟩; have t0 : w1.cell? ⟨w.heap.size, 0, none⟩ = some (.int .i64 t.1) := (hb1.cell (p := ⟨w.heap.size, 0, none⟩) (by simp <;> omega)).trans (by simp [go_sem, World.cell?_alloc_past]); have t1 : w1.cell? ⟨w.heap.size, 1, none⟩ = some (.int .i64 t.2) := (hb1.cell (p := ⟨w.heap.size, 1, none⟩) (by simp <;> omega)).trans (by simp [go_sem, World.cell?_alloc_past]); have r0 : w1.cell? ⟨w.heap.size + 1, 0, none⟩ = some (.int .i64 0) := (hb1.cell (p := ⟨w.heap.size + 1, 0, none⟩) (by simp <;> omega)).trans (by simp [go_sem]); have r1 : w1.cell? ⟨w.heap.size + 1, 1, none⟩ = some (.int .i64 0) := (hb1.cell (p := ⟨w.heap.size + 1, 1, none⟩) (by simp <;> omega)).trans (by simp [go_sem]); have r2 : w1.frozen? ⟨w.heap.size + 1, 0, none⟩ = false := (hb1.frozen (p := ⟨w.heap.size + 1, 0, none⟩) (by simp <;> omega)).trans (by simp [go_sem]); have r3 : w1.frozen? ⟨w.heap.size + 1, 1, none⟩ = false := (hb1.frozen (p := ⟨w.heap.size + 1, 1, none⟩) (by simp <;> omega)).trans (by simp [go_sem]); have hB1 : Below w.heap.size w w1 := ((below_new w (.cells #[.int .i64 t.1, .int .i64 t.2] 29)).alloc (by simp) (.cells #[.int .i64 0, .int .i64 0] 29)).trans (hb1.mono (by simp <;> omega)); have z1 := wl r0; simp only at z1)
    | (go_at_call 60; (with_reducible refine (valid_any t.1 t.2 _).mono ?_); rintro e w2 ⟨rfl, hb2⟩; rw [HVT.out]; have hB2 := hB1.trans (hb2.mono hB1.size); have T0 := (hb2.cell (p := ⟨w.heap.size, 0, none⟩) (by simp; omega)).trans t0; have T1 := (hb2.cell (p := ⟨w.heap.size, 1, none⟩) (by simp; omega)).trans t1; have R0 := (hb2.cell (p := ⟨w.heap.size + 1, 0, none⟩) z1).trans r0; have R1 := (hb2.cell (p := ⟨w.heap.size + 1, 1, none⟩) z1).trans r1; have R2 := (hb2.frozen (p := ⟨w.heap.size + 1, 0, none⟩) z1).trans r2; have R3 := (hb2.frozen (p := ⟨w.heap.size + 1, 1, none⟩) z1).trans r3; have z2 := wl R0; simp only at z2; have zz : w.heap.size < w2.heap.size := (by omega); clear t0 t1 r0 r1 r2 r3 hb1 hb2)
    | (go_at_call 62; have W20 : Below w2.heap.size w2 (w2.alloc (.cells #[.int .i64 0] 97)) := below_new _ _; have hB3 := hB2.trans (W20.mono hB2.size); (with_reducible refine (piece_any L HOK.out t HTT.out (some ⟨b, off, none⟩) c _ (HL.out.grow hB3)).mono ?_); rw [HK.out]; rintro e w4 ⟨rfl, hb4⟩; have hB4 := hB3.trans (hb4.mono hB3.size); have hb5 := W20.trans (hb4.mono W20.size); have S0 : w4.cell? ⟨w2.heap.size, 0, none⟩ = some (.int .i64 0) := (hb4.cell (p := ⟨w2.heap.size, 0, none⟩) (by simp)).trans (by simp); have S1 : w4.frozen? ⟨w2.heap.size, 0, none⟩ = false := (hb4.frozen (p := ⟨w2.heap.size, 0, none⟩) (by simp)).trans (by simp); have t0 := (hb5.cell (p := ⟨w.heap.size, 0, none⟩) (by simp; omega)).trans T0; have t1 := (hb5.cell (p := ⟨w.heap.size, 1, none⟩) (by simp; omega)).trans T1; have r0 := (hb5.cell (p := ⟨w.heap.size + 1, 0, none⟩) z2).trans R0; have r1 := (hb5.cell (p := ⟨w.heap.size + 1, 1, none⟩) z2).trans R1; have r2 := (hb5.frozen (p := ⟨w.heap.size + 1, 0, none⟩) z2).trans R2; have r3 := (hb5.frozen (p := ⟨w.heap.size + 1, 1, none⟩) z2).trans R3; have hBs4 : w2.heap.size < w4.heap.size := wl S0; clear T0 T1 R0 R1 R2 R3 hb4 hb5 W20 hB3))
   have T0 := t0;have T1 := t1;have R0 := r0;have R1 := r1;have R2 := r2;have R3 := r3;clear t0 t1 r0 r1 r2 r3;obtain ⟨Bs, hBB⟩ := nm (w2.heap.size);simp only [hBB] at S0 S1 hBs4 z2 ⊢;clear hBB;generalize w4 = W0 at *;obtain ⟨c0, c1, c2, c3, c4, c5, c6, c7⟩ := HC.out;have d0 := (hB4.cell (p := ⟨b, off + i * 8, none⟩) hb).trans c0;have d1 := (hB4.cell (p := ⟨b, off + i * 8 + 1, none⟩) hb).trans c1;have d2 := (hB4.cell (p := ⟨b, off + i * 8 + 2, none⟩) hb).trans c2;have d3 := (hB4.cell (p := ⟨b, off + i * 8 + 3, none⟩) hb).trans c3;have d4 := (hB4.cell (p := ⟨b, off + i * 8 + 4, none⟩) hb).trans c4;have d5 := (hB4.cell (p := ⟨b, off + i * 8 + 5, none⟩) hb).trans c5;have d6 := (hB4.cell (p := ⟨b, off + i * 8 + 6, none⟩) hb).trans c6;have d7 := (hB4.cell (p := ⟨b, off + i * 8 + 7, none⟩) hb).trans c7;clear c0 c1 c2 c3 c4 c5 c6 c7
   have HX : Hid (∀ x w', Sm Bs x W0 w' → W0.heap.size ≤ w'.heap.size ∧ w'.cell? ⟨b, off + i * 8, none⟩ = some (.int .i64 (pcg L i).f0) ∧ w'.cell? ⟨b, off + i * 8 + 1, none⟩ = some (.int .i64 (pcg L i).f1) ∧ w'.cell? ⟨b, off + i * 8 + 2, none⟩ = some (.int .i64 (pcg L i).a0) ∧ w'.cell? ⟨b, off + i * 8 + 3, none⟩ = some (.int .i64 (pcg L i).a1) ∧ w'.cell? ⟨b, off + i * 8 + 4, none⟩ = some (.int .i64 (pcg L i).b0) ∧ w'.cell? ⟨b, off + i * 8 + 5, none⟩ = some (.int .i64 (pcg L i).b1) ∧ w'.cell? ⟨b, off + i * 8 + 6, none⟩ = some (.int .i64 (pcg L i).c0) ∧ w'.cell? ⟨b, off + i * 8 + 7, none⟩ = some (.int .i64 (pcg L i).c1) ∧ w'.cell? ⟨w.heap.size, 0, none⟩ = some (.int .i64 t.1) ∧ w'.cell? ⟨w.heap.size, 1, none⟩ = some (.int .i64 t.2)) := lh fun x w' h =>
    ⟨h.size, (h.other (p := ⟨b, off + i * 8, none⟩) (by simp; omega) (by simp; omega)).trans d0, (h.other (p := ⟨b, off + i * 8 + 1, none⟩) (by simp; omega) (by simp; omega)).trans d1, (h.other (p := ⟨b, off + i * 8 + 2, none⟩) (by simp; omega) (by simp; omega)).trans d2, (h.other (p := ⟨b, off + i * 8 + 3, none⟩) (by simp; omega) (by simp; omega)).trans d3, (h.other (p := ⟨b, off + i * 8 + 4, none⟩) (by simp; omega) (by simp; omega)).trans d4, (h.other (p := ⟨b, off + i * 8 + 5, none⟩) (by simp; omega) (by simp; omega)).trans d5, (h.other (p := ⟨b, off + i * 8 + 6, none⟩) (by simp; omega) (by simp; omega)).trans d6, (h.other (p := ⟨b, off + i * 8 + 7, none⟩) (by simp; omega) (by simp; omega)).trans d7, (h.other (p := ⟨w.heap.size, 0, none⟩) (by simp; omega) (by simp; omega)).trans T0, (h.other (p := ⟨w.heap.size, 1, none⟩) (by simp; omega) (by simp; omega)).trans T1⟩
   have HY : Hid (∀ x w', Sm Bs x W0 w' → w'.cell? ⟨w.heap.size + 1, 0, none⟩ = some (.int .i64 0) ∧ w'.cell? ⟨w.heap.size + 1, 1, none⟩ = some (.int .i64 0) ∧ w'.frozen? ⟨w.heap.size + 1, 0, none⟩ = false ∧ w'.frozen? ⟨w.heap.size + 1, 1, none⟩ = false) := lh fun x w' h =>
    ⟨(h.other (p := ⟨w.heap.size + 1, 0, none⟩) (by simp; omega) (by simp; omega)).trans R0, (h.other (p := ⟨w.heap.size + 1, 1, none⟩) (by simp; omega) (by simp; omega)).trans R1, (h.otherF (p := ⟨w.heap.size + 1, 0, none⟩) (by simp; omega) (by simp; omega)).trans R2, (h.otherF (p := ⟨w.heap.size + 1, 1, none⟩) (by simp; omega) (by simp; omega)).trans R3⟩
   have HZs : Hid (∀ x w', Sm Bs x W0 w' → ∀ v0 v1, (fun w' => W0.heap.size ≤ w'.heap.size ∧ w'.cell? ⟨b, off + i * 8, none⟩ = some (.int .i64 (pcg L i).f0) ∧ w'.cell? ⟨b, off + i * 8 + 1, none⟩ = some (.int .i64 (pcg L i).f1) ∧ w'.cell? ⟨b, off + i * 8 + 2, none⟩ = some (.int .i64 (pcg L i).a0) ∧ w'.cell? ⟨b, off + i * 8 + 3, none⟩ = some (.int .i64 (pcg L i).a1) ∧ w'.cell? ⟨b, off + i * 8 + 4, none⟩ = some (.int .i64 (pcg L i).b0) ∧ w'.cell? ⟨b, off + i * 8 + 5, none⟩ = some (.int .i64 (pcg L i).b1) ∧ w'.cell? ⟨b, off + i * 8 + 6, none⟩ = some (.int .i64 (pcg L i).c0) ∧ w'.cell? ⟨b, off + i * 8 + 7, none⟩ = some (.int .i64 (pcg L i).c1) ∧ w'.cell? ⟨w.heap.size, 0, none⟩ = some (.int .i64 t.1) ∧ w'.cell? ⟨w.heap.size, 1, none⟩ = some (.int .i64 t.2)) ((w'.setCell ⟨w.heap.size + 1, 0, none⟩ v0).setCell ⟨w.heap.size + 1, 1, none⟩ v1)) := lh fun x w' h v0 v1 => by
    obtain ⟨h0, h1, h2, h3, h4, h5, h6, h7, h8, h9, h10⟩ := HX.out x w' h;refine ⟨by simpa using h0, ?_, ?_, ?_, ?_, ?_, ?_, ?_, ?_, ?_, ?_⟩
    all_goals (refine (two_other (by omega) _ _ _).trans ?_; assumption)
   have hsd : Sm Bs 0 W0 W0.drew := (Sm.refl S0 S1).drew;clear S0 S1 T0 T1 R0 R1 R2 R3 d0 d1 d2 d3 d4 d5 d6 d7;refine wp_region_held_drew (S := (fun w' => W0.heap.size ≤ w'.heap.size ∧ w'.cell? ⟨b, off + i * 8, none⟩ = some (.int .i64 (pcg L i).f0) ∧ w'.cell? ⟨b, off + i * 8 + 1, none⟩ = some (.int .i64 (pcg L i).f1) ∧ w'.cell? ⟨b, off + i * 8 + 2, none⟩ = some (.int .i64 (pcg L i).a0) ∧ w'.cell? ⟨b, off + i * 8 + 3, none⟩ = some (.int .i64 (pcg L i).a1) ∧ w'.cell? ⟨b, off + i * 8 + 4, none⟩ = some (.int .i64 (pcg L i).b0) ∧ w'.cell? ⟨b, off + i * 8 + 5, none⟩ = some (.int .i64 (pcg L i).b1) ∧ w'.cell? ⟨b, off + i * 8 + 6, none⟩ = some (.int .i64 (pcg L i).c0) ∧ w'.cell? ⟨b, off + i * 8 + 7, none⟩ = some (.int .i64 (pcg L i).c1) ∧ w'.cell? ⟨w.heap.size, 0, none⟩ = some (.int .i64 t.1) ∧ w'.cell? ⟨w.heap.size, 1, none⟩ = some (.int .i64 t.2))) (by kernel_rfl) (HX.out _ _ hsd) (fun hHeld => ?_);refine tkB 0 ?_;simp only [Act.put, s_1, s_2, s_3, s_4, s_6];refine tkB 1 ?_;simp only [Act.put, s_1, s_2, s_3, s_4, s_5, s_6];refine tkB 2 ?_;simp only [Act.put, s_1, s_2, s_3, s_4, s_5, s_6];refine tkB 3 ?_;simp only [Act.put, s_1, s_2, s_3, s_4, s_5, s_6];refine tkB 4 ?_;simp only [Act.put, s_1, s_2, s_3, s_4, s_5, s_6];refine tkB 5 ?_;simp only [Act.put, s_1, s_2, s_3, s_4, s_5, s_6];refine tkB 6 ?_;simp only [Act.put, s_1, s_2, s_3, s_4, s_5, s_6];refine tkB 7 ?_;simp only [Act.put, s_1, s_2, s_3, s_4, s_5, s_6];refine tkB 8 ?_;simp only [Act.put, s_1, s_2, s_3, s_4, s_5, s_6];refine tkB 9 ?_;simp only [Act.put, s_1, s_2, s_3, s_4, s_5, s_6];refine tkB 10 ?_;simp only [Act.put, s_1, s_2, s_3, s_4, s_5, s_6];refine tkB 11 ?_;simp only [Act.put, s_1, s_2, s_3, s_4, s_5, s_6];refine tkB 12 ?_;simp only [Act.put, s_1, s_2, s_3, s_4, s_5, s_6];refine r1 13 (fun K hK => ?_)
   try simp only [s_4, s_5, s_6]
   go_simp
   (go_at_call 65; go_split_ands; (with_reducible refine (HC1.out _ _ hsd.cell hsd.free).mono ?_); rintro z w5 ⟨rfl, ht1⟩; have hs1 := hsd.trans ht1)
   go_wp2_with fail
   refine hK.out _ _ (HX.out _ _ hs1) (fun hHeld => ?_);clear hK K
   try simp only [Act.put, s_1, s_2, s_3, s_4, s_5, s_6]
   refine r1 14 (fun K hK => ?_)
   try simp only [s_4, s_5, s_6]
   go_simp
   (go_at_call 67; go_split_ands; (with_reducible refine (HC2.out _ _ hs1.cell hs1.free).mono ?_); rintro z w6 ⟨rfl, ht2⟩; have hs2 := hs1.trans ht2)
   go_wp2_with fail
   refine hK.out _ _ (HX.out _ _ hs2) (fun hHeld => ?_);clear hK K
   try simp only [Act.put, s_1, s_2, s_3, s_4, s_5, s_6]
   refine r1 15 (fun K hK => ?_)
   try simp only [s_4, s_5, s_6]
   go_simp
   (go_at_call 63; go_split_ands; (with_reducible refine (HC3.out _ _ hs2.cell).mono ?_); rintro z w7 ⟨rfl, hb7⟩; have hs3 := hs2.then hb7)
   go_wp2_with fail
   refine hK.out _ _ (HX.out _ _ hs3) (fun hHeld => ?_);clear hK K
   try simp only [Act.put, s_1, s_2, s_3, s_4, s_5, s_6]
   refine tkB 16 ?_;simp only [Act.put, s_1, s_2, s_3, s_4, s_5, s_6];refine tkB 17 ?_;simp only [Act.put, s_1, s_2, s_3, s_4, s_5, s_6];refine r1 18 (fun K hK => ?_);go_split_ands;obtain ⟨g0, g1, g2, g3⟩ := HY.out _ _ hs3
   try simp only [s_4, s_5, s_6]
   go_wp2_with fail
   refine hK.out _ _ (HZs.out _ _ hs3 _ _) (fun hHeld => ?_);clear hK K
   try simp only [Act.put, s_1, s_2, s_3, s_4, s_5, s_6]
   refine tkB 19 ?_;simp only [Act.put, s_1, s_2, s_3, s_4, s_5, s_6];refine wpAnyH_done (by kernel_rfl) ?_ _
   go_wp2_with fail
   have l0 := (two_cells (v0 := .int .i64 q1) (v1 := .int .i64 q2) g0 g1).1;have l1 := (two_cells (v0 := .int .i64 q1) (v1 := .int .i64 q2) g0 g1).2;refine bodyPost_ret (v := .tuple #[.agg #[.int .i64 q1, .int .i64 q2], .int .i64 K2.2]) (by simp [results, Tryz.results27, go_sem, l0, l1]) rfl ⟨rfl, ?_⟩;have hB5 := hB4.trans (hs3.below (n := w.heap.size) (by omega) (by omega));exact (hB5.setCell (p := ⟨w.heap.size + 1, 0, none⟩) (Nat.le_succ _) _).setCell (p := ⟨w.heap.size + 1, 1, none⟩) (Nat.le_succ _) _
end
section
def qp (p : Pc) : QP := ⟨fr (p.f0, p.f1), fr (p.a0, p.a1), fr (p.b0, p.b1), fr (p.c0, p.c1)⟩
def qL (L : List Pc) : List QP := L.map qp
theorem qL_len (L : List Pc) : (qL L).length = L.length := by simp [qL]
theorem qL_get (L : List Pc) (i : Nat) (h : i < (qL L).length) : (qL L)[i] = qp (pcg L i) := by
 have h' : i < L.length := by rwa [qL_len] at h
 have e : pcg L i = L[i] := by unfold pcg; simp [h']
 rw [e]
 simp [qL]
theorem PcOK.vf {p : Pc} (h : PcOK p) : vF (p.f0, p.f1) = true := h.f
theorem PcOK.va {p : Pc} (h : PcOK p) : vF (p.a0, p.a1) = true := h.a
theorem PcOK.vb {p : Pc} (h : PcOK p) : vF (p.b0, p.b1) = true := h.b
theorem PcOK.vc {p : Pc} (h : PcOK p) : vF (p.c0, p.c1) = true := h.c
def Asc (L : List QP) : Prop := ∀ i (h : i + 1 < L.length), L[i].f < L[i + 1].f
theorem Asc.tail {p : QP} {L : List QP} (h : Asc (p :: L)) : Asc L := fun i hi => h (i + 1) (by simp only [List.length_cons]; omega)
theorem Asc.head {p : QP} {L : List QP} (h : Asc (p :: L)) : ∀ k (hk : k < L.length), p.f < L[k].f := by
 intro k
 induction k with
 | zero => intro hk; exact h 0 (by simp only [List.length_cons]; omega)
 | succ k ih =>
  intro hk;have a := ih (by omega);have b := h.tail k hk
  grind
theorem atL_at : ∀ (L : List QP) (k : Nat) (hk : k < L.length) (t : Rat), Asc L → L[k].f ≤ t → (∀ j (hj : j < L.length), k < j → t < L[j].f) → atL L t = qv L[k] t ∧ slL L t = qs L[k] t
 | [p], 0, _, t, _, h, _ => by
  simp only [List.getElem_cons_zero] at h ⊢;rw [atL, if_pos h, slL, if_pos h];exact ⟨rfl, rfl⟩
 | p :: q :: r, 0, _, t, _, h, g => by
  have g1 := g 1 (by simp) (by omega);simp only [List.getElem_cons_zero, List.getElem_cons_succ] at h g1 ⊢;have n : ¬ q.f ≤ t := Rat.not_le.2 g1;rw [atL, if_neg n, if_pos h, slL, if_neg n, if_pos h];exact ⟨rfl, rfl⟩
 | p :: q :: r, k + 1, hk, t, a, h, g => by
  have hk' : k < (q :: r).length := by simp only [List.length_cons] at hk ⊢; omega
  have h' : (q :: r)[k].f ≤ t := h
  have c : q.f ≤ t := by
   rcases Nat.eq_zero_or_pos k with z | z
   ·subst z; exact h'
   ·obtain ⟨k, rfl⟩ : ∃ m, k = m + 1 := ⟨k - 1, by omega⟩
    have kr : k < r.length := by simp only [List.length_cons] at hk'; omega
    have := a.tail.head k kr;have e : (q :: r)[k + 1].f = (r[k]'kr).f := rfl
    grind
  rw [atL, if_pos c, slL, if_pos c];exact atL_at (q :: r) k hk' t a.tail h' (fun j hj kj => g (j + 1) (by simp only [List.length_cons] at hj ⊢; omega) (by omega))
theorem atL_before (L : List QP) (t : Rat) (h0 : 0 < L.length) (a : Asc L) (h : t < L[0].f) : atL L t = headA L ∧ slL L t = 0 := by
 match L, h0, a, h with
 | [p], _, _, h =>
  simp only [List.getElem_cons_zero] at h;have n := Rat.not_le.2 h;simp only [atL, slL, headA, if_neg n];exact ⟨trivial, trivial⟩
 | p :: q :: r, _, a, h =>
  simp only [List.getElem_cons_zero] at h;have b := a 0 (by simp);simp only [List.getElem_cons_zero, List.getElem_cons_succ] at b;have n := Rat.not_le.2 h;have n2 := Rat.not_le.2 (show t < q.f by grind);simp only [atL, slL, headA, if_neg n, if_neg n2];exact ⟨trivial, trivial⟩
theorem CurveOK.asc' {L : List Pc} (ok : CurveOK L) : Asc (qL L) := fun i h => by
 have h' : i + 1 < L.length := by rwa [qL_len] at h
 rw [qL_get, qL_get];exact (frq_lt (a := ((pcg L i).f0, (pcg L i).f1)) (b := ((pcg L (i + 1)).f0, (pcg L (i + 1)).f1)) (den_pos (ok.val i (by omega)).vf) (den_pos (ok.val (i + 1) h').vf)).2 (ok.asc i h')
theorem pieceN_spec (L : List Pc) (t : Int × Int) (k : Nat) : (∀ j, j < k → pieceN L t k < (j : Int) → ¬ (pcg L j).f0 * t.2 ≤ t.1 * (pcg L j).f1) ∧ (0 ≤ pieceN L t k → (pcg L (pieceN L t k).toNat).f0 * t.2 ≤ t.1 * (pcg L (pieceN L t k).toNat).f1) := by
 induction k with
 | zero => exact ⟨fun j h => absurd h (by omega), fun h => by unfold pieceN at h; omega⟩
 | succ k ih =>
  unfold pieceN
  split
  next h => exact ⟨fun j h1 h2 => absurd h1 (by omega), fun _ => by simpa using h⟩
  next h =>
   refine ⟨fun j h1 h2 => ?_, ih.2⟩;rcases Nat.lt_or_eq_of_le (Nat.le_of_lt_succ h1) with l | l
   ·exact ih.1 j l h2
   ·subst l; exact h
theorem resV_ok {v : (Int × Int) × Int} (h : (resV v).2.2 = 0) : v.2 = 0 ∧ ((resV v).1, (resV v).2.1) = v.1 := by
 have z : v.2 = 0 := h;refine ⟨z, ?_⟩;unfold resV;rw [if_pos z, if_pos z]
theorem slopeAt_ok {L : List Pc} (ok : CurveOK L) {t : Int × Int} (vt : vF t = true) {i : Nat} (hi : i < L.length) (h : (slopeAt L t i).2.2 = 0) : fr ((slopeAt L t i).1, (slopeAt L t i).2.1) = qs (qp (pcg L i)) (fr t) := by
 obtain ⟨z, e⟩ := resV_ok h;have v := ok.val i hi;unfold slopeAt;rw [e];obtain ⟨z1, e1⟩ := kSlope_ok v.vb v.vc (kSub_valid vt v.vf) z;obtain ⟨_, e2⟩ := kSub_ok (den_pos vt) (den_pos v.vf) z1;rw [e1, e2]
 rfl
theorem headA_qL {L : List Pc} (h : 1 ≤ L.length) : headA (qL L) = fr ((pcg L 0).a0, (pcg L 0).a1) := by
 cases L with
 | nil => simp at h
 | cons p r => rfl
theorem piece_cases {L : List Pc} (ok : CurveOK L) {t : Int × Int} (vt : vF t = true) :
  (pieceN L t L.length < 0 ∧ atL (qL L) (fr t) = fr ((pcg L 0).a0, (pcg L 0).a1) ∧ slL (qL L) (fr t) = 0) ∨
  (¬ pieceN L t L.length < 0 ∧ (pieceN L t L.length).toNat < L.length ∧ atL (qL L) (fr t) = qv (qp (pcg L (pieceN L t L.length).toNat)) (fr t) ∧ slL (qL L) (fr t) = qs (qp (pcg L (pieceN L t L.length).toNat)) (fr t)) := by
 obtain ⟨s1, s2⟩ := pieceN_spec L t L.length;obtain ⟨r1, r2⟩ := pieceN_range L t L.length;have hp := ok.pos
 by_cases c : pieceN L t L.length < 0
 ·left
  have h0 := s1 0 (by omega) (by simpa using c)
  have h1 : fr t < ((qL L)[0]'(by rw [qL_len]; omega)).f := by
   rw [qL_get];exact (frq_lt (a := t) (b := ((pcg L 0).f0, (pcg L 0).f1)) (den_pos vt) (den_pos (ok.val 0 (by omega)).vf)).2 (by show t.1 * (pcg L 0).f1 < (pcg L 0).f0 * t.2; omega)
  obtain ⟨a, b⟩ := atL_before (qL L) (fr t) (by rw [qL_len]; omega) ok.asc' h1;exact ⟨c, by rw [a, headA_qL hp], b⟩
 ·right
  obtain ⟨k, hk⟩ := nm ((pieceN L t L.length).toNat : Nat);have hkl : k < L.length := by omega
  have s2' := s2 (by omega);rw [hk] at s2' ⊢;have vk := (ok.val k hkl).vf
  have a1 : ((qL L)[k]'(by rw [qL_len]; exact hkl)).f ≤ fr t := by
   rw [qL_get];exact (frq_le (a := ((pcg L k).f0, (pcg L k).f1)) (b := t) (den_pos vk) (den_pos vt)).2 s2'
  have a2 : ∀ j (hj : j < (qL L).length), k < j → fr t < (qL L)[j].f := fun j hj kj => by
   rw [qL_get];have hj' : j < L.length := by rwa [qL_len] at hj
   have := s1 j hj' (by omega);exact (frq_lt (a := t) (b := ((pcg L j).f0, (pcg L j).f1)) (den_pos vt) (den_pos (ok.val j hj').vf)).2 (by show t.1 * (pcg L j).f1 < (pcg L j).f0 * t.2; omega)
  obtain ⟨x, y⟩ := atL_at (qL L) k (by rw [qL_len]; exact hkl) (fr t) ok.asc' a1 a2;rw [qL_get] at x y;exact ⟨c, hkl, x, y⟩
theorem slopeP_ok {L : List Pc} (ok : CurveOK L) {t : Int × Int} (vt : vF t = true) (h : (slopeP L t).2.2 = 0) : fr ((slopeP L t).1, (slopeP L t).2.1) = slL (qL L) (fr t) := by
 unfold slopeP at h ⊢;rw [if_pos vt] at h ⊢;rcases piece_cases ok vt with ⟨c, _, e⟩ | ⟨c, hk, _, e⟩
 ·rw [if_pos c, e, ← frq_zero]
 ·rw [if_neg c] at h ⊢
  rw [e];exact slopeAt_ok ok vt hk h
theorem resV_valid {v : (Int × Int) × Int} (h : (resV v).2.2 = 0) (hv : vF v.1 = true) : vF ((resV v).1, (resV v).2.1) = true := by
 rw [(resV_ok h).2]; exact hv
theorem atP_valid {L : List Pc} (ok : CurveOK L) {t : Int × Int} (vt : vF t = true) (h : (atP L t).2.2 = 0) : vF ((atP L t).1, (atP L t).2.1) = true := by
 unfold atP at h ⊢;rw [if_pos vt] at h ⊢;rcases piece_cases ok vt with ⟨c, _, _⟩ | ⟨c, hk, _, _⟩
 ·rw [if_pos c]; exact (ok.val 0 (by have := ok.pos; omega)).va
 ·rw [if_neg c] at h ⊢
  have v := ok.val _ hk;exact resV_valid h (kVal_valid v.va v.vb v.vc (kSub_valid vt v.vf))
theorem slopeP_valid {L : List Pc} (ok : CurveOK L) {t : Int × Int} (vt : vF t = true) (h : (slopeP L t).2.2 = 0) : vF ((slopeP L t).1, (slopeP L t).2.1) = true := by
 unfold slopeP at h ⊢;rw [if_pos vt] at h ⊢;rcases piece_cases ok vt with ⟨c, _, _⟩ | ⟨c, hk, _, _⟩
 ·rw [if_pos c]; exact vF_zero
 ·rw [if_neg c] at h ⊢
  have v := ok.val _ hk;exact resV_valid h (kSlope_valid v.vb v.vc (kSub_valid vt v.vf))
end
end Go.Proofs.YtbgkgahmicepdaaGreat
