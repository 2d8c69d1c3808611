/-
  PLAIN: curves of quadratic pieces as package quadratic reckons them: what its sums keep; validity; the piece at a time.
-/
import Derived.Test.YtlgpolfbilkmbaaRatP
import Derived.Test.YtlgpolfbilkmbaaRat6
namespace Go.Proofs.Ytlgpolfbilkmbaa
open Go.RowKit Go.Shelf
def kp (e : Int) (r : Int × Int × Int) : (Int × Int) × Int := if r.2.2 = 0 then ((r.1, r.2.1), e) else ((0, 1), if e = 0 then r.2.2 else e)
def kAdd (e : Int) (a b : Int × Int) : (Int × Int) × Int := kp e (addP a.1 a.2 b.1 b.2)
def kSub (e : Int) (a b : Int × Int) : (Int × Int) × Int := kp e (addP a.1 a.2 (-b.1) b.2)
def kMul (e : Int) (a b : Int × Int) : (Int × Int) × Int := kp e (mulP a.1 a.2 b.1 b.2)
def kVal (e : Int) (A B C u : Int × Int) : (Int × Int) × Int := kAdd (kMul (kAdd (kMul e C u).2 B (kMul e C u).1).2 (kAdd (kMul e C u).2 B (kMul e C u).1).1 u).2 A (kMul (kAdd (kMul e C u).2 B (kMul e C u).1).2 (kAdd (kMul e C u).2 B (kMul e C u).1).1 u).1
def kSlope (e : Int) (B C u : Int × Int) : (Int × Int) × Int := kAdd (kMul (kMul e C u).2 (2, 1) (kMul e C u).1).2 B (kMul (kMul e C u).2 (2, 1) (kMul e C u).1).1
def vF (a : Int × Int) : Bool := validF a.1 a.2
theorem fit_valid {p q : Int} : (fitP p q).2.2 = 0 ∨ (fitP p q).2.2 = 5 := by
  unfold fitP; split
  · exact .inr rfl
  · exact .inl rfl
theorem fit_ok {p q : Int} (hq : 0 < q) (c : Int.gcd p q = 1) (h : (fitP p q).2.2 = 0) : fitP p q = (p, q, 0) ∧ validF p q = true := by
  unfold fitP at *
  split at h
  · cases h
  next hn =>
    rw [if_neg hn]
    exact ⟨rfl, (validF_iff _ _).2 ⟨by omega, by omega, by omega, by omega, c⟩⟩
theorem vF_zero : vF (0, 1) = true := (validF_iff _ _).2 ⟨by decide, by decide, by decide, by decide, by decide⟩
theorem kp_valid {e p q : Int} (hq : 0 < q) (c : Int.gcd p q = 1) : vF (kp e (fitP p q)).1 = true := by
  unfold kp
  by_cases h : (fitP p q).2.2 = 0
  · rw [if_pos h, (fit_ok hq c h).1]
    exact (fit_ok hq c h).2
  · rw [if_neg h]; exact vF_zero
theorem den_pos {a : Int × Int} (h : vF a = true) : 0 < a.2 := by have := (validF_iff _ _).1 h; omega
theorem kAdd_valid {e : Int} {a b : Int × Int} (ha : vF a = true) (hb : vF b = true) : vF (kAdd e a b).1 = true := kp_valid (lowD_pos (Int.mul_pos (den_pos ha) (den_pos hb))) (low_cop (Int.mul_pos (den_pos ha) (den_pos hb)))
theorem kSub_valid {e : Int} {a b : Int × Int} (ha : vF a = true) (hb : vF b = true) : vF (kSub e a b).1 = true := kp_valid (lowD_pos (Int.mul_pos (den_pos ha) (den_pos hb))) (low_cop (Int.mul_pos (den_pos ha) (den_pos hb)))
theorem kMul_valid {e : Int} {a b : Int × Int} (ha : vF a = true) (hb : vF b = true) : vF (kMul e a b).1 = true := kp_valid (lowD_pos (Int.mul_pos (den_pos ha) (den_pos hb))) (low_cop (Int.mul_pos (den_pos ha) (den_pos hb)))
theorem vF_two : vF (2, 1) = true := (validF_iff _ _).2 ⟨by decide, by decide, by decide, by decide, by decide⟩
theorem kVal_valid {e : Int} {A B C u : Int × Int} (hA : vF A = true) (hB : vF B = true) (hC : vF C = true) (hu : vF u = true) : vF (kVal e A B C u).1 = true := kAdd_valid hA (kMul_valid (kAdd_valid hB (kMul_valid hC hu)) hu)
theorem kSlope_valid {e : Int} {B C u : Int × Int} (hB : vF B = true) (hC : vF C = true) (hu : vF u = true) : vF (kSlope e B C u).1 = true := kAdd_valid hB (kMul_valid vF_two (kMul_valid hC hu))
end Go.Proofs.Ytlgpolfbilkmbaa
