/-
  PLAIN: what Smooth of package quadratic reckons; a curve whose values and slopes join is smooth, unless a number is too big.
-/
import Derived.Test.YtlgpolfbilkmbaaFrK
namespace Go.Proofs.Ytlgpolfbilkmbaa
open Go.RowKit Go.Shelf
def eqF (a b : Int × Int) : Bool := (a.1 == b.1) && (a.2 == b.2)
theorem eqF_iff (a b : Int × Int) : eqF a b = true ↔ a = b := by
  unfold eqF
  rw [Bool.and_eq_true, beq_iff_eq, beq_iff_eq]
  exact ⟨fun h => Prod.ext h.1 h.2, fun h => by rw [h]; exact ⟨rfl, rfl⟩⟩
def smU (L : List Pc) (e : Int) (k : Nat) : (Int × Int) × Int := kSub e ((pcg L (k + 1)).f0, (pcg L (k + 1)).f1) ((pcg L k).f0, (pcg L k).f1)
def smA (L : List Pc) (e : Int) (k : Nat) : (Int × Int) × Int := kVal (smU L e k).2 ((pcg L k).a0, (pcg L k).a1) ((pcg L k).b0, (pcg L k).b1) ((pcg L k).c0, (pcg L k).c1) (smU L e k).1
def smB (L : List Pc) (e : Int) (k : Nat) : (Int × Int) × Int := kSlope (smA L e k).2 ((pcg L k).b0, (pcg L k).b1) ((pcg L k).c0, (pcg L k).c1) (smU L e k).1
/-- What Smooth knows behind the knot k: are all knots smooth, and the error kept. -/
def smRun (L : List Pc) : Nat → Bool × Int
  | 0 => (((pcg L 0).b0 == 0) && ((pcg L 0).b1 == 1), 0)
  | k + 1 => ((smRun L k).1 && eqF (smA L (smRun L k).2 k).1 ((pcg L (k + 1)).a0, (pcg L (k + 1)).a1) && eqF (smB L (smRun L k).2 k).1 ((pcg L (k + 1)).b0, (pcg L (k + 1)).b1), (smB L (smRun L k).2 k).2)
def smoothP (L : List Pc) : Bool × Int := if (smRun L (L.length - 1)).2 = 0 then ((smRun L (L.length - 1)).1, 0) else (false, (smRun L (L.length - 1)).2)

theorem smRun_err (L : List Pc) (k : Nat) : (smRun L k).2 = 0 ∨ (smRun L k).2 = 5 := by
  induction k with
  | zero => exact .inl rfl
  | succ k ih => exact kSlope_err (kVal_err (kSub_err ih))
theorem smooth_err (L : List Pc) : (smoothP L).2 = 0 ∨ (smoothP L).2 = 5 := by
  unfold smoothP
  have := smRun_err L (L.length - 1)
  split
  · exact .inl rfl
  · exact this
theorem smRun_yes {L : List Pc} (ok : CurveOK L) (hb : (pcg L 0).b0 = 0 ∧ (pcg L 0).b1 = 1) (hs : ∀ k, k + 1 < L.length → qv (qp (pcg L k)) (fr ((pcg L (k + 1)).f0, (pcg L (k + 1)).f1)) = fr ((pcg L (k + 1)).a0, (pcg L (k + 1)).a1) ∧ qs (qp (pcg L k)) (fr ((pcg L (k + 1)).f0, (pcg L (k + 1)).f1)) = fr ((pcg L (k + 1)).b0, (pcg L (k + 1)).b1)) (k : Nat) (hk : k < L.length) (h : (smRun L k).2 = 0) : (smRun L k).1 = true := by
  induction k with
  | zero => unfold smRun; rw [hb.1, hb.2]; rfl
  | succ k ih =>
    have v := ok.val k (by omega)
    have v1 := ok.val (k + 1) hk
    have hu : vF (smU L (smRun L k).2 k).1 = true := kSub_valid v1.vf v.vf
    have hB : (smB L (smRun L k).2 k).2 = 0 := h
    obtain ⟨hA, eB⟩ := kSlope_ok v.vb v.vc hu hB
    obtain ⟨hU, eA⟩ := kVal_ok v.va v.vb v.vc hu hA
    obtain ⟨h0, eU⟩ := kSub_ok (den_pos v1.vf) (den_pos v.vf) hU
    obtain ⟨j1, j2⟩ := hs k hk
    have i := ih (by omega) h0
    have a1 : (smA L (smRun L k).2 k).1 = ((pcg L (k + 1)).a0, (pcg L (k + 1)).a1) := frq_inj (kVal_valid v.va v.vb v.vc hu) v1.va (by
      rw [← j1]
      unfold smA
      rw [eA]
      unfold smU
      rw [eU]
      rfl)
    have a2 : (smB L (smRun L k).2 k).1 = ((pcg L (k + 1)).b0, (pcg L (k + 1)).b1) := frq_inj (kSlope_valid v.vb v.vc hu) v1.vb (by
      rw [← j2]
      unfold smB
      rw [eB]
      unfold smU
      rw [eU]
      rfl)
    show ((smRun L k).1 && eqF (smA L (smRun L k).2 k).1 ((pcg L (k + 1)).a0, (pcg L (k + 1)).a1) && eqF (smB L (smRun L k).2 k).1 ((pcg L (k + 1)).b0, (pcg L (k + 1)).b1)) = true
    rw [i, (eqF_iff _ _).2 a1, (eqF_iff _ _).2 a2]
    rfl
theorem smooth_yes {L : List Pc} (ok : CurveOK L) (hb : (pcg L 0).b0 = 0 ∧ (pcg L 0).b1 = 1) (hs : ∀ k, k + 1 < L.length → qv (qp (pcg L k)) (fr ((pcg L (k + 1)).f0, (pcg L (k + 1)).f1)) = fr ((pcg L (k + 1)).a0, (pcg L (k + 1)).a1) ∧ qs (qp (pcg L k)) (fr ((pcg L (k + 1)).f0, (pcg L (k + 1)).f1)) = fr ((pcg L (k + 1)).b0, (pcg L (k + 1)).b1)) (h : (smoothP L).2 = 0) : (smoothP L).1 = true := by
  have hp := ok.pos
  unfold smoothP at h ⊢
  by_cases z : (smRun L (L.length - 1)).2 = 0
  · rw [if_pos z]
    exact smRun_yes ok hb hs _ (by omega) z
  · rw [if_neg z] at h
    exact absurd h z
theorem Up.joins {m : Rat} {Q : List QP} (h : Up m Q) : ∀ i (hi : i + 1 < Q.length), qv Q[i] Q[i + 1].f = Q[i + 1].a ∧ qs Q[i] Q[i + 1].f = Q[i + 1].b := by
  induction h with
  | rest p _ _ _ => exact fun i h => absurd h (by simp)
  | go p q r hf _ _ _ _ h4 h5 h ih =>
    intro i hi
    cases i with
    | zero => exact ⟨h4, h5⟩
    | succ i => exact ih i (by simp only [List.length_cons] at hi ⊢; omega)
theorem Up.joinsL {m : Rat} {L : List Pc} (h : Up m (qL L)) : ∀ k, k + 1 < L.length → qv (qp (pcg L k)) (fr ((pcg L (k + 1)).f0, (pcg L (k + 1)).f1)) = fr ((pcg L (k + 1)).a0, (pcg L (k + 1)).a1) ∧ qs (qp (pcg L k)) (fr ((pcg L (k + 1)).f0, (pcg L (k + 1)).f1)) = fr ((pcg L (k + 1)).b0, (pcg L (k + 1)).b1) := fun k hk => by
  have hk' : k + 1 < (qL L).length := by rw [qL_len]; exact hk
  have := h.joins k hk'
  rw [qL_get, qL_get] at this
  exact this
end Go.Proofs.Ytlgpolfbilkmbaa
