/-
  PLAIN: what Smooth of package quadratic reckons; a curve whose values and slopes join is smooth, unless a number is too big.
  PLAIN: a move's path is smooth, and no faster than its speed; the move back takes as long.
-/
import Derived.Test.YtbgkgahmicepdaaZ27
import Derived.Test.YtbgkgahmicepdaaZ32
namespace Go.Proofs.Ytbgkgahmicepdaa
open Go.RowKit Go.Shelf
def eqF (a b : Int × Int) : Bool := (a.1 == b.1) && (a.2 == b.2)
theorem eqF_iff (a b : Int × Int) : eqF a b = true ↔ a = b := by
 unfold eqF
 rw [Bool.and_eq_true, beq_iff_eq, beq_iff_eq]
 exact ⟨fun h => Prod.ext h.1 h.2, fun h => by rw [h]; exact ⟨rfl, rfl⟩⟩
def smU (L : List Pc) (e : Int) (k : Nat) : (Int × Int) × Int := kSub e ((pcg L (k + 1)).f0, (pcg L (k + 1)).f1) ((pcg L k).f0, (pcg L k).f1)
def smA (L : List Pc) (e : Int) (k : Nat) : (Int × Int) × Int := kVal (smU L e k).2 ((pcg L k).a0, (pcg L k).a1) ((pcg L k).b0, (pcg L k).b1) ((pcg L k).c0, (pcg L k).c1) (smU L e k).1
def smB (L : List Pc) (e : Int) (k : Nat) : (Int × Int) × Int := kSlope (smA L e k).2 ((pcg L k).b0, (pcg L k).b1) ((pcg L k).c0, (pcg L k).c1) (smU L e k).1
def smRun (L : List Pc) : Nat → Bool × Int
 | 0 => (((pcg L 0).b0 == 0) && ((pcg L 0).b1 == 1), 0)
 | k + 1 => ((smRun L k).1 && eqF (smA L (smRun L k).2 k).1 ((pcg L (k + 1)).a0, (pcg L (k + 1)).a1) && eqF (smB L (smRun L k).2 k).1 ((pcg L (k + 1)).b0, (pcg L (k + 1)).b1), (smB L (smRun L k).2 k).2)
def smoothP (L : List Pc) : Bool × Int := if (smRun L (L.length - 1)).2 = 0 then ((smRun L (L.length - 1)).1, 0) else (false, (smRun L (L.length - 1)).2)

theorem smRun_err (L : List Pc) (k : Nat) : (smRun L k).2 = 0 ∨ (smRun L k).2 = 5 := by
 induction k with
 | zero => exact .inl rfl
 | succ k ih => exact kSlope_err (kVal_err (kSub_err ih))
theorem smooth_err (L : List Pc) : (smoothP L).2 = 0 ∨ (smoothP L).2 = 5 := by
 unfold smoothP
 have := smRun_err L (L.length - 1)
 split
 ·exact .inl rfl
 ·exact this
theorem smRun_yes {L : List Pc} (ok : CurveOK L) (hb : (pcg L 0).b0 = 0 ∧ (pcg L 0).b1 = 1) (hs : ∀ k, k + 1 < L.length → qv (qp (pcg L k)) (fr ((pcg L (k + 1)).f0, (pcg L (k + 1)).f1)) = fr ((pcg L (k + 1)).a0, (pcg L (k + 1)).a1) ∧ qs (qp (pcg L k)) (fr ((pcg L (k + 1)).f0, (pcg L (k + 1)).f1)) = fr ((pcg L (k + 1)).b0, (pcg L (k + 1)).b1)) (k : Nat) (hk : k < L.length) (h : (smRun L k).2 = 0) : (smRun L k).1 = true := by
 induction k with
 | zero => unfold smRun; rw [hb.1, hb.2]; rfl
 | succ k ih =>
  have v := ok.val k (by omega)
  have v1 := ok.val (k + 1) hk
  have hu : vF (smU L (smRun L k).2 k).1 = true := kSub_valid v1.vf v.vf
  have hB : (smB L (smRun L k).2 k).2 = 0 := h
  obtain ⟨hA, eB⟩ := kSlope_ok v.vb v.vc hu hB
  obtain ⟨hU, eA⟩ := kVal_ok v.va v.vb v.vc hu hA
  obtain ⟨h0, eU⟩ := kSub_ok (den_pos v1.vf) (den_pos v.vf) hU
  obtain ⟨j1, j2⟩ := hs k hk
  have i := ih (by omega) h0
  have a1 : (smA L (smRun L k).2 k).1 = ((pcg L (k + 1)).a0, (pcg L (k + 1)).a1) := frq_inj (kVal_valid v.va v.vb v.vc hu) v1.va (by
   rw [← j1]
   unfold smA
   rw [eA]
   unfold smU
   rw [eU]
   rfl)
  have a2 : (smB L (smRun L k).2 k).1 = ((pcg L (k + 1)).b0, (pcg L (k + 1)).b1) := frq_inj (kSlope_valid v.vb v.vc hu) v1.vb (by
   rw [← j2]
   unfold smB
   rw [eB]
   unfold smU
   rw [eU]
   rfl)
  show ((smRun L k).1 && eqF (smA L (smRun L k).2 k).1 ((pcg L (k + 1)).a0, (pcg L (k + 1)).a1) && eqF (smB L (smRun L k).2 k).1 ((pcg L (k + 1)).b0, (pcg L (k + 1)).b1)) = true
  rw [i, (eqF_iff _ _).2 a1, (eqF_iff _ _).2 a2]
  rfl
theorem smooth_yes {L : List Pc} (ok : CurveOK L) (hb : (pcg L 0).b0 = 0 ∧ (pcg L 0).b1 = 1) (hs : ∀ k, k + 1 < L.length → qv (qp (pcg L k)) (fr ((pcg L (k + 1)).f0, (pcg L (k + 1)).f1)) = fr ((pcg L (k + 1)).a0, (pcg L (k + 1)).a1) ∧ qs (qp (pcg L k)) (fr ((pcg L (k + 1)).f0, (pcg L (k + 1)).f1)) = fr ((pcg L (k + 1)).b0, (pcg L (k + 1)).b1)) (h : (smoothP L).2 = 0) : (smoothP L).1 = true := by
 have hp := ok.pos
 unfold smoothP at h ⊢
 by_cases z : (smRun L (L.length - 1)).2 = 0
 ·rw [if_pos z]
  exact smRun_yes ok hb hs _ (by omega) z
 ·rw [if_neg z] at h
  exact absurd h z
theorem Up.joins {m : Rat} {Q : List QP} (h : Up m Q) : ∀ i (hi : i + 1 < Q.length), qv Q[i] Q[i + 1].f = Q[i + 1].a ∧ qs Q[i] Q[i + 1].f = Q[i + 1].b := by
 induction h with
 | rest p _ _ _ => exact fun i h => absurd h (by simp)
 | go p q r hf _ _ _ _ h4 h5 h ih =>
  intro i hi
  cases i with
  | zero => exact ⟨h4, h5⟩
  | succ i => exact ih i (by simp only [List.length_cons] at hi ⊢; omega)
theorem Up.joinsL {m : Rat} {L : List Pc} (h : Up m (qL L)) : ∀ k, k + 1 < L.length → qv (qp (pcg L k)) (fr ((pcg L (k + 1)).f0, (pcg L (k + 1)).f1)) = fr ((pcg L (k + 1)).a0, (pcg L (k + 1)).a1) ∧ qs (qp (pcg L k)) (fr ((pcg L (k + 1)).f0, (pcg L (k + 1)).f1)) = fr ((pcg L (k + 1)).b0, (pcg L (k + 1)).b1) := fun k hk => by
 have hk' : k + 1 < (qL L).length := by rw [qL_len]; exact hk
 have := h.joins k hk'
 rw [qL_get, qL_get] at this
 exact this
end Go.Proofs.Ytbgkgahmicepdaa
namespace Go.Proofs.Ytbgkgahmicepdaa
section
variable {h : HouseR} {f : Int} {m : Mv} {t : Int}
theorem mir_joins {up : Bool} {f x : Rat} {p q : QP} (h1 : qv p x = q.a) (h2 : qs p x = q.b) : qv (mir up f p) x = (mir up f q).a ∧ qs (mir up f p) x = (mir up f q).b := by
 rw [mir_v, mir_s, mir_a, h1, h2]
 refine ⟨rfl, ?_⟩
 cases up <;> rfl
theorem Going.smooth (g : Going h f m t) (hz : (smoothP (mpL f m t)).2 = 0) : (smoothP (mpL f m t)).1 = true := by
 have hp := g.mc.ok.pos
 have hlen : (mpL f m t).length = (curveL (mgD f m) m.rise m.fall t).length := path_len _ _ _
 have sm := curve_small g.gd g.top
 have f0 := g.f0
 have Q : ∀ i, i < (curveL (mgD f m) m.rise m.fall t).length → qp (pcg (mpL f m t) i) = mir (upB f m) (f : Rat) (qp (pcg (curveL (mgD f m) m.rise m.fall t) i)) := fun i hi => by
  have e : pcg (mpL f m t) i = wayP (upB f m) f (pcg (curveL (mgD f m) m.rise m.fall t) i) := path_at hi
  rw [e]
  exact (way_qp ⟨by omega, by omega⟩ (sm i hi)).1
 refine smooth_yes g.ok ?_ (fun k hk => ?_) hz
 ·have e : pcg (mpL f m t) 0 = wayP (upB f m) f (pcg (curveL (mgD f m) m.rise m.fall t) 0) := path_at hp
  have b := g.mc.b0
  have b0 : (pcg (curveL (mgD f m) m.rise m.fall t) 0).b0 = 0 := congrArg Prod.fst b
  have b1 : (pcg (curveL (mgD f m) m.rise m.fall t) 0).b1 = 1 := congrArg Prod.snd b
  rw [e]
  unfold wayP
  split
  ·exact ⟨b0, b1⟩
  ·refine ⟨?_, b1⟩
   show -(pcg (curveL (mgD f m) m.rise m.fall t) 0).b0 = 0
   rw [b0]; rfl
 ·have hk' : k + 1 < (curveL (mgD f m) m.rise m.fall t).length := by rw [← hlen]; exact hk
  obtain ⟨j1, j2⟩ := g.mc.up.joinsL k hk'
  have q0 := Q k (by omega)
  have q1 := Q (k + 1) hk'
  have ef : fr ((pcg (mpL f m t) (k + 1)).f0, (pcg (mpL f m t) (k + 1)).f1) = fr ((pcg (curveL (mgD f m) m.rise m.fall t) (k + 1)).f0, (pcg (curveL (mgD f m) m.rise m.fall t) (k + 1)).f1) := by
   have := congrArg QP.f q1
   rw [mir_f] at this
   exact this
  obtain ⟨r1, r2⟩ := mir_joins (up := upB f m) (f := (f : Rat)) (q := qp (pcg (curveL (mgD f m) m.rise m.fall t) (k + 1))) j1 j2
  rw [q0, ef, r1, r2, ← q1]
  exact ⟨rfl, rfl⟩
theorem neg_cast (n : Int) : ((-n : Int) : Rat) = -(n : Rat) := by rw [Rat.intCast_neg]
theorem Going.slope (g : Going h f m t) {x : Int × Int} (vx : vF x = true) (hx : (slopeP (mpL f m t) x).2.2 = 0) :
  vF ((slopeP (mpL f m t) x).1, (slopeP (mpL f m t) x).2.1) = true ∧ -m.spd * (slopeP (mpL f m t) x).2.1 ≤ (slopeP (mpL f m t) x).1 * 1 ∧ (slopeP (mpL f m t) x).1 * 1 ≤ m.spd * (slopeP (mpL f m t) x).2.1 := by
 have e := g.slo vx hx
 have w := slopeP_valid g.ok vx hx
 obtain ⟨r1, r2⟩ := g.mc.up.slope (fr x)
 have tv : (t : Rat) ≤ (m.spd : Rat) := Rat.intCast_le_intCast.2 g.top.2.1
 have b : -(m.spd : Rat) ≤ fr ((slopeP (mpL f m t) x).1, (slopeP (mpL f m t) x).2.1) ∧ fr ((slopeP (mpL f m t) x).1, (slopeP (mpL f m t) x).2.1) ≤ (m.spd : Rat) := by
  rw [e]
  cases upB f m
  ·simp only [Bool.false_eq_true, if_false]; constructor <;> grind
  ·simp only [if_true]; constructor <;> grind
 rw [← neg_cast, ← frq_one (-m.spd), ← frq_one m.spd] at b
 exact ⟨w, (frq_le (a := (-m.spd, 1)) (by show (0 : Int) < 1; decide) (den_pos w)).1 b.1, (frq_le (b := (m.spd, 1)) (den_pos w) (by show (0 : Int) < 1; decide)).1 b.2⟩
def backM (f : Int) (m : Mv) : Mv := ⟨m.name, f, m.spd, m.fall, m.rise⟩
theorem back_dist : mgD m.to (backM f m) = mgD f m := by
 unfold mgD backM
 simp only
 by_cases a : f ≤ m.to
 ·rw [if_pos a]
  by_cases b : m.to ≤ f
  ·rw [if_pos b]; omega
  ·rw [if_neg b]
 ·rw [if_neg a, if_pos (by omega)]
theorem back_valid (vm : validM m = true) (f0 : 0 ≤ f ∧ f ≤ 1048576) : validM (backM f m) = true := by
 unfold validM at vm ⊢
 simp only [Bool.and_eq_true] at vm ⊢
 obtain ⟨a, b, c, d, e⟩ := vm
 exact ⟨a, inB_iff.2 ⟨by show -1048576 ≤ f; omega, f0.2⟩, c, e, d⟩
theorem back_e (e : mgE h f m = 0) : mgE h m.to (backM f m) = 0 := by
 obtain ⟨hB, vm, f0, f1, _⟩ := mg_ok e
 have vb := back_valid vm ⟨f0, f1⟩
 unfold mgE at e ⊢
 by_cases c : setE h m = 0
 ·rw [if_pos c] at e
  have en : setI h (backM f m) = setI h m := rfl
  have c' : setE h (backM f m) = 0 := by
   unfold setE at c ⊢
   rw [if_pos ⟨hB, vm⟩] at c
   rw [if_pos ⟨hB, vb⟩, en]
   exact c
  have o' : setO h (backM f m) = setO h m := by unfold setO; rw [if_pos c, if_pos c', en]
  rw [if_pos c', o']
  by_cases r : reachB (setO h m) f = true ∧ reachB (setO h m) m.to = true
  ·rw [if_pos ⟨r.2, r.1⟩]
  ·rw [if_neg r] at e; cases e
 ·rw [if_neg c] at e; exact absurd e c
theorem back_top (g : Going h f m t) : IsTop (mgD m.to (backM f m)) (backM f m).spd (backM f m).rise (backM f m).fall t := by
 rw [back_dist]
 exact top_swap g.top
theorem back_time (g : Going h f m t) (e : mgE h f m = 0) : timeP (mgD m.to (backM f m)) (backM f m) t = timeP (mgD f m) m t := by
 rw [back_dist, ← turned_time g.gd]
 have gb : givenP (mgD f m) (backM f m) = 0 := by rw [← back_dist (f := f) (m := m)]; exact (mg_ok (back_e e)).2.2.2.2.2.2.1
 have gt : givenP (mgD f m) (turnedM m) = 0 := turned_given.trans g.gd
 unfold timeP
 rw [if_pos gb, if_pos gt]
 rfl
end
end Go.Proofs.Ytbgkgahmicepdaa
