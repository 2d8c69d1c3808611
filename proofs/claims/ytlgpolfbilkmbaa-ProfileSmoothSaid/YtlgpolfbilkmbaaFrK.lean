/-
  PLAIN: sums and products of fractions that fit: what package quadratic keeps of them; the value at the first knot, and behind the last one.
-/
import Derived.Test.YtlgpolfbilkmbaaFrC
namespace Go.Proofs.Ytlgpolfbilkmbaa

theorem kp_fit {p q : Int} {x : Int × Int} (hq : 0 < q) (c : Int.gcd p q = 1) (vx : vF x = true) (h : fr (p, q) = fr x) : kp 0 (fitP p q) = (x, 0) := by
  obtain ⟨x1, x2, x3, x4, x5⟩ := (validF_iff _ _).1 vx
  have e := (frq_eq (a := (p, q)) (b := x) hq (by omega)).1 h
  obtain ⟨e1, e2⟩ := low_unique hq (by omega) c x5 e
  subst e1 e2
  have n : ¬ (1152921504606846976 < x.1.natAbs ∨ 1152921504606846976 < x.2) := by omega
  unfold fitP
  rw [if_neg n]
  rfl
theorem kAdd_eq {a b x : Int × Int} (ha : 0 < a.2) (hb : 0 < b.2) (vx : vF x = true) (h : fr a + fr b = fr x) : kAdd 0 a b = (x, 0) :=
  kp_fit (lowD_pos (Int.mul_pos ha hb)) (low_cop (Int.mul_pos ha hb)) vx ((frq_add ha hb).trans h)
theorem kSub_eq {a b x : Int × Int} (ha : 0 < a.2) (hb : 0 < b.2) (vx : vF x = true) (h : fr a - fr b = fr x) : kSub 0 a b = (x, 0) :=
  kAdd_eq (a := a) (b := (-b.1, b.2)) ha hb vx (by rw [frq_neg, ← Rat.sub_eq_add_neg]; exact h)
theorem kMul_eq {a b x : Int × Int} (ha : 0 < a.2) (hb : 0 < b.2) (vx : vF x = true) (h : fr a * fr b = fr x) : kMul 0 a b = (x, 0) :=
  kp_fit (lowD_pos (Int.mul_pos ha hb)) (low_cop (Int.mul_pos ha hb)) vx ((frq_times ha hb).trans h)
theorem kVal_zero {A B C : Int × Int} (vA : vF A = true) (vB : vF B = true) (vC : vF C = true) : kVal 0 A B C (0, 1) = (A, 0) := by
  have z : (0 : Int) < ((0, 1) : Int × Int).2 := by decide
  have e1 : kMul 0 C (0, 1) = ((0, 1), 0) := kMul_eq (den_pos vC) z vF_zero (by rw [frq_zero, Rat.mul_zero])
  have e2 : kAdd 0 B (0, 1) = (B, 0) := kAdd_eq (den_pos vB) z vB (by rw [frq_zero, Rat.add_zero])
  have e3 : kMul 0 B (0, 1) = ((0, 1), 0) := kMul_eq (den_pos vB) z vF_zero (by rw [frq_zero, Rat.mul_zero])
  have e4 : kAdd 0 A (0, 1) = (A, 0) := kAdd_eq (den_pos vA) z vA (by rw [frq_zero, Rat.add_zero])
  unfold kVal
  simp only [e1, e2, e3, e4]
theorem kVal_rest {A u : Int × Int} (vA : vF A = true) (vu : vF u = true) : kVal 0 A (0, 1) (0, 1) u = (A, 0) := by
  have z : (0 : Int) < ((0, 1) : Int × Int).2 := by decide
  have e1 : kMul 0 (0, 1) u = ((0, 1), 0) := kMul_eq z (den_pos vu) vF_zero (by rw [frq_zero, Rat.zero_mul])
  have e2 : kAdd 0 (0, 1) (0, 1) = ((0, 1), 0) := kAdd_eq z z vF_zero (by rw [frq_zero, Rat.add_zero])
  have e4 : kAdd 0 A (0, 1) = (A, 0) := kAdd_eq (den_pos vA) z vA (by rw [frq_zero, Rat.add_zero])
  unfold kVal
  simp only [e1, e2, e4]
theorem piece_is {L : List Pc} {t : Int × Int} {k : Nat} (ok : CurveOK L) (vt : vF t = true) (hk : k < L.length) (h1 : fr ((pcg L k).f0, (pcg L k).f1) ≤ fr t) (h2 : ∀ j, j < L.length → k < j → fr t < fr ((pcg L j).f0, (pcg L j).f1)) : pieceN L t L.length = (k : Int) := by
  obtain ⟨s1, s2⟩ := pieceN_spec L t L.length
  obtain ⟨r1, r2⟩ := pieceN_range L t L.length
  have g1 := (frq_le (a := ((pcg L k).f0, (pcg L k).f1)) (b := t) (den_pos (ok.val k hk).vf) (den_pos vt)).1 h1
  have a1 : ¬ pieceN L t L.length < (k : Int) := fun h => s1 k hk h g1
  rcases Int.lt_or_le (k : Int) (pieceN L t L.length) with l | l
  · obtain ⟨j, hj⟩ : ∃ j : Nat, (pieceN L t L.length).toNat = j := ⟨_, rfl⟩
    have hjl : j < L.length := by omega
    have s2' := s2 (by omega)
    rw [hj] at s2'
    have := (frq_lt (a := t) (b := ((pcg L j).f0, (pcg L j).f1)) (den_pos vt) (den_pos (ok.val j hjl).vf)).1 (h2 j hjl (by omega))
    have e1 : t.1 * (pcg L j).f1 < (pcg L j).f0 * t.2 := this
    omega
  · omega
theorem atP_at {L : List Pc} {t : Int × Int} {k : Nat} (vt : vF t = true) (h : pieceN L t L.length = (k : Int)) : atP L t = valAt L t k := by
  unfold atP
  rw [if_pos vt, h, if_neg (by omega)]
  rfl
theorem slopeP_at {L : List Pc} {t : Int × Int} {k : Nat} (vt : vF t = true) (h : pieceN L t L.length = (k : Int)) : slopeP L t = slopeAt L t k := by
  unfold slopeP
  rw [if_pos vt, h, if_neg (by omega)]
  rfl
theorem qL_f (L : List Pc) (i : Nat) (h : i < (qL L).length) : ((qL L)[i]).f = fr ((pcg L i).f0, (pcg L i).f1) := by rw [qL_get]; rfl
/-- At its first knot a curve has its first value. -/
theorem at_first {L : List Pc} (ok : CurveOK L) : atP L ((pcg L 0).f0, (pcg L 0).f1) = ((pcg L 0).a0, (pcg L 0).a1, 0) := by
  have hp := ok.pos
  have v := ok.val 0 (by omega)
  have e : pieceN L ((pcg L 0).f0, (pcg L 0).f1) L.length = ((0 : Nat) : Int) := by
    refine piece_is ok v.vf (by omega) Rat.le_refl fun j hj kj => ?_
    have hj' : j < (qL L).length := by rw [qL_len]; exact hj
    obtain ⟨i, rfl⟩ : ∃ i, j = i + 1 := ⟨j - 1, by omega⟩
    have a := ok.asc'
    have g : ∀ i (h : i + 1 < (qL L).length), ((qL L)[0]'(by omega)).f < ((qL L)[i + 1]).f := fun i => by
      induction i with
      | zero => exact fun h => a 0 h
      | succ i ih => exact fun h => by have x := ih (by omega); have y := a (i + 1) h; grind
    have := g i hj'
    rw [qL_f, qL_f] at this
    exact this
  rw [atP_at v.vf e]
  unfold valAt
  have z : kSub 0 ((pcg L 0).f0, (pcg L 0).f1) ((pcg L 0).f0, (pcg L 0).f1) = ((0, 1), 0) := kSub_eq (den_pos v.vf) (den_pos v.vf) vF_zero (by rw [frq_zero]; grind)
  simp only [z, kVal_zero v.va v.vb v.vc]
  rfl
/-- Behind its last knot a curve that rests has its last value. -/
theorem at_last {L : List Pc} (ok : CurveOK L) {t u : Int × Int} (vt : vF t = true) (vu : vF u = true) (hb : ((pcg L (L.length - 1)).b0, (pcg L (L.length - 1)).b1) = (0, 1)) (hc : ((pcg L (L.length - 1)).c0, (pcg L (L.length - 1)).c1) = (0, 1))
    (h : fr t = fr ((pcg L (L.length - 1)).f0, (pcg L (L.length - 1)).f1) + fr u) (u0 : 0 ≤ fr u) : atP L t = ((pcg L (L.length - 1)).a0, (pcg L (L.length - 1)).a1, 0) := by
  have hp := ok.pos
  have v := ok.val (L.length - 1) (by omega)
  have e : pieceN L t L.length = ((L.length - 1 : Nat) : Int) := piece_is ok vt (by omega) (by grind) fun j hj kj => absurd kj (by omega)
  rw [atP_at vt e]
  unfold valAt
  have z : kSub 0 t ((pcg L (L.length - 1)).f0, (pcg L (L.length - 1)).f1) = (u, 0) := kSub_eq (den_pos vt) (den_pos v.vf) vu (by rw [h]; grind)
  simp only [z, hb, hc, kVal_rest v.va vu]
  rfl
end Go.Proofs.Ytlgpolfbilkmbaa
