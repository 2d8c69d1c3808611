/-
  PLAIN: a halted move stops between the trim at which it is braked and its last trim, and closer to it the later it is halted.
  THE WALK of MoveStops' closure far.
  THE WALK of the law MoveStops.
  THE STATEMENT MoveStopsSaid: at whatever arguments the law MoveStops answers true, and each argument reads as it did. Conditions: none beyond the given row.
-/
import Derived.Test.YtbgkgahmicepdaaZ33
import Derived.Test.YtbgkgahmicepdaaZ1
import Derived.Test.YtbgkgahmicepdaaZ32
import Derived.Test.YtbgkgahmicepdaaZ15
namespace Go.Proofs.Ytbgkgahmicepdaa
section
variable {P : Program} {ops : Array Oper} {Q : Exit → Act → World → Prop} {md : Region.Mode} {S : World → Prop}
theorem tkD (i : Nat) {oi : Oper} {v : Value} {fuel : Nat} {listed : Array Bool} {a : Act} {w : World} (h : wpAnyH P md ops Q S fuel (listed.setIfInBounds i true) (a.put oi.dst v) w)
    (hi : ops[i]? = some oi := by simp only [List.getElem?_toArray, List.getElem?_cons_succ, List.getElem?_cons_zero]; rfl)
    (hs : Region.noSelect ops = true := by kernel_rfl) (hf : Region.free md ops listed i = true := by kernel_rfl) (hr : (Region.ready md ops listed).contains i = true := by kernel_rfl)
    (hQ : ∀ c a w, Q (.panic c) (a.put oi.dst v) w → Q (.panic c) a w := by exact fun _ _ _ h => h)
    (hy : YieldsIf P ops S oi v a := by refine Or.inl ⟨by rfl, ?_⟩; (intro w hSw; (try dsimp only at hSw); go_split_ands; go_simp; try with_reducible rfl))
    (hS : S w := by assumption) : wpAnyH P md ops Q S (fuel + 1) listed a w := wpAnyH_take hi hs hf hr hQ hy hS h
theorem tkE (i : Nat) {oi : Oper} {fuel : Nat} {listed : Array Bool} {a : Act} {w : World} (h : wpAnyH P md ops Q S fuel (listed.setIfInBounds i true) (a.put oi.dst undef) w)
    (hi : ops[i]? = some oi := by simp only [List.getElem?_toArray, List.getElem?_cons_succ, List.getElem?_cons_zero]; rfl)
    (hs : Region.noSelect ops = true := by kernel_rfl) (hf : Region.free md ops listed i = true := by kernel_rfl) (hr : (Region.ready md ops listed).contains i = true := by kernel_rfl)
    (hQ : ∀ c a w, Q (.panic c) (a.put oi.dst undef) w → Q (.panic c) a w := by exact fun _ _ _ h => h)
    (hy : YieldsIf P ops S oi undef a := by exact Or.inr ⟨by rfl, rfl⟩)
    (hS : S w := by assumption) : wpAnyH P md ops Q S (fuel + 1) listed a w := wpAnyH_take hi hs hf hr hQ hy hS h
end
def gq (K : Rat) (p : QP) (t : Rat) : Rat := qv p t + K * (qs p t * qs p t)
def gL (K : Rat) (L : List QP) (t : Rat) : Rat := atL L t + K * (slL L t * slL L t)
theorem gq_mono {K : Rat} {p : QP} {x y z : Rat} (hb : 0 ≤ p.b) (hs : 0 ≤ qs p z) (hk : 0 ≤ 1 + 4 * (K * p.c)) (hx : p.f ≤ x) (xy : x ≤ y) (yz : y ≤ z) : gq K p x ≤ gq K p y := by
 have h := slope_mid (b := p.b) (c := p.c) (l := z - p.f) (u := x - p.f) (v := y - p.f) hb hs (by grind) (by grind) (by grind)
 have a := Rat.mul_nonneg (show 0 ≤ y - x by grind) h
 have b := Rat.mul_nonneg a hk
 have e : gq K p y - gq K p x = (y - x) * (p.b + p.c * ((x - p.f) + (y - p.f))) * (1 + 4 * (K * p.c)) := by unfold gq qv qs; grind
 grind
theorem sq_nonneg' (x : Rat) : 0 ≤ x * x := by
 rcases rat_total 0 x with h | h
 ·exact Rat.mul_nonneg h h
 ·have := Rat.mul_nonneg (show 0 ≤ -x by grind) (show 0 ≤ -x by grind)
  grind
theorem gq_ge {K : Rat} (hK : 0 ≤ K) (p : QP) (t : Rat) : qv p t ≤ gq K p t := by
 unfold gq
 have := Rat.mul_nonneg hK (sq_nonneg' (qs p t))
 grind
theorem gL_ge {K : Rat} (hK : 0 ≤ K) (L : List QP) (t : Rat) : atL L t ≤ gL K L t := by
 unfold gL
 have := Rat.mul_nonneg hK (sq_nonneg' (slL L t))
 grind
theorem gL_head {K m : Rat} {q : QP} {r : List QP} (h : Up m (q :: r)) : gL K (q :: r) q.f = gq K q q.f := by
 unfold gL gq
 cases h with
 | rest p _ _ _ => simp only [atL, slL, if_pos Rat.le_refl]
 | go p s r hf _ _ _ _ _ _ _ =>
  have n : ¬ s.f ≤ q.f := by grind
  rw [atL, slL, if_neg n, if_neg n, if_pos Rat.le_refl, if_pos Rat.le_refl]
theorem Up.gmono {K m : Rat} {L : List QP} (hK : 0 ≤ K) (h : Up m L) (hc : ∀ p ∈ L, 0 ≤ 1 + 4 * (K * p.c)) {x y : Rat} (xy : x ≤ y) : gL K L x ≤ gL K L y := by
 induction h generalizing x y with
 | rest p hb hc' hm =>
  have e1 : ∀ t, qv p t = p.a := fun t => by unfold qv; rw [hb, hc']; grind
  have e2 : ∀ t, qs p t = 0 := fun t => by unfold qs; rw [hb, hc']; grind
  have e : ∀ t, gL K [p] t = p.a := fun t => by
   unfold gL
   simp only [atL, slL]
   split
   ·rw [e1, e2]; grind
   ·grind
  rw [e, e]
  exact Rat.le_refl
 | go p q r hf h0 h1 h2 h3 h4 h5 h ih =>
  have hcp := hc p (by simp)
  have ih' : ∀ {x y : Rat}, x ≤ y → gL K (q :: r) x ≤ gL K (q :: r) y := fun xy => ih (fun p hp => hc p (by simp; simp at hp; exact .inr hp)) xy
  have pos : ∀ t, q.f ≤ t → gL K (p :: q :: r) t = gL K (q :: r) t := fun t c => by unfold gL; rw [atL, slL, if_pos c, if_pos c]
  have mid : ∀ t, ¬ q.f ≤ t → p.f ≤ t → gL K (p :: q :: r) t = gq K p t := fun t c d => by unfold gL gq; rw [atL, slL, if_neg c, if_neg c, if_pos d, if_pos d]
  have low : ∀ t, ¬ q.f ≤ t → ¬ p.f ≤ t → gL K (p :: q :: r) t = p.a := fun t c d => by unfold gL; rw [atL, slL, if_neg c, if_neg c, if_neg d, if_neg d]; grind
  have join : gq K p q.f = gq K q q.f := by
   unfold gq
   rw [h4, h5, qv_self]
   have : qs q q.f = q.b := by unfold qs; grind
   rw [this]
  have start : p.a ≤ gq K p p.f := by
   have := gq_ge hK p p.f
   rwa [qv_self] at this
  by_cases cx : q.f ≤ x
  ·rw [pos x cx, pos y (Rat.le_trans cx xy)]
   exact ih' xy
  ·by_cases cy : q.f ≤ y
   ·have r1 := ih' cy
    rw [gL_head h, ← join] at r1
    rw [pos y cy]
    by_cases d : p.f ≤ x
    ·rw [mid x cx d]
     have := gq_mono (K := K) (p := p) (x := x) (y := q.f) (z := q.f) h0 h2 hcp d (by grind) Rat.le_refl
     exact Rat.le_trans this r1
    ·rw [low x cx d]
     have := gq_mono (K := K) (p := p) (x := p.f) (y := q.f) (z := q.f) h0 h2 hcp Rat.le_refl (Rat.le_of_lt hf) Rat.le_refl
     exact Rat.le_trans start (Rat.le_trans this r1)
   ·by_cases d : p.f ≤ x
    ·rw [mid x cx d, mid y cy (Rat.le_trans d xy)]
     exact gq_mono (z := q.f) h0 h2 hcp d xy (by grind)
    ·rw [low x cx d]
     by_cases d' : p.f ≤ y
     ·rw [mid y cy d']
      have := gq_mono (K := K) (p := p) (x := p.f) (y := y) (z := q.f) h0 h2 hcp Rat.le_refl d' (by grind)
      exact Rat.le_trans start this
     ·rw [low y cy d']
      exact Rat.le_refl
theorem Up.headLast {m : Rat} {L : List QP} (h : Up m L) : headF L ≤ lastF L := by
 induction h with
 | rest p _ _ _ => exact Rat.le_refl
 | go p q r hf _ _ _ _ _ _ _ ih =>
  have e : lastF (p :: q :: r) = lastF (q :: r) := rfl
  rw [e]
  exact Rat.le_trans (Rat.le_of_lt hf) ih
theorem Up.still {m : Rat} {L : List QP} (h : Up m L) {t : Rat} (ht : lastF L ≤ t) : slL L t = 0 := by
 induction h with
 | rest p hb hc hm =>
  have : qs p t = 0 := by unfold qs; rw [hb, hc]; grind
  simp only [slL]
  split <;> grind
 | go p q r hf h0 h1 h2 h3 h4 h5 h ih =>
  have e : lastF (p :: q :: r) = lastF (q :: r) := rfl
  rw [e] at ht
  have c : q.f ≤ t := Rat.le_trans h.headLast ht
  rw [slL, if_pos c]
  exact ih ht
theorem Up.gafter {K m : Rat} {L : List QP} (h : Up m L) {t : Rat} (ht : lastF L ≤ t) : gL K L t = lastA L := by
 unfold gL
 rw [h.after ht, h.still ht]
 grind
theorem Up.gtop {K m : Rat} {L : List QP} (hK : 0 ≤ K) (h : Up m L) (hc : ∀ p ∈ L, 0 ≤ 1 + 4 * (K * p.c)) (x : Rat) : gL K L x ≤ lastA L := by
 rcases rat_total x (lastF L) with c | c
 ·have := h.gmono hK hc c
  rwa [h.gafter Rat.le_refl] at this
 ·rw [h.gafter c]
  exact Rat.le_refl
section
variable {h : HouseR} {f : Int} {m : Mv} {t : Int}
def bK (m : Mv) : Rat := fr (1, 2 * m.fall)
theorem bK_pos (hf : 1 ≤ m.fall) : 0 ≤ bK m := by
 unfold bK
 rw [← frq_zero]
 exact (frq_le (a := (0, 1)) (b := (1, 2 * m.fall)) (by decide) (by show 0 < 2 * m.fall; omega)).2 (by show 0 * (2 * m.fall) ≤ 1 * 1; omega)
theorem bK_mul (hf : 1 ≤ m.fall) : 4 * (bK m * ((m.fall : Rat) / 2)) = 1 := by
 unfold bK
 have h1 := frq_mul (1, 2 * m.fall) (show 0 < (1, 2 * m.fall).2 by show 0 < 2 * m.fall; omega)
 have e : (((1, 2 * m.fall) : Int × Int).2 : Rat) = 2 * (m.fall : Rat) := by show ((2 * m.fall : Int) : Rat) = _; rw [Rat.intCast_mul]; rfl
 have e1 : (((1, 2 * m.fall) : Int × Int).1 : Rat) = 1 := rfl
 rw [e, e1] at h1
 grind
theorem Going.brakes (g : Going h f m t) : ∀ p ∈ qL (curveL (mgD f m) m.rise m.fall t), 0 ≤ 1 + 4 * (bK m * p.c) := by
 obtain ⟨hv, hd⟩ := given_ok g.gd
 obtain ⟨V0, V1, R0, R1, F0, F1⟩ := valid_bds hv
 have K0 := bK_pos (m := m) F0
 have KM := bK_mul (m := m) F0
 have RP : (0 : Rat) ≤ (m.rise : Rat) / 2 := by
  have : (0 : Rat) < (m.rise : Rat) := by
   have := (Rat.intCast_lt_intCast (a := 0) (b := m.rise)).2 (by omega)
   exact this
  exact Rat.le_of_lt (rat_div_pos this (by decide))
 have one : ∀ c : Rat, 0 ≤ c → 0 ≤ 1 + 4 * (bK m * c) := fun c hc => by
  have := Rat.mul_nonneg K0 hc
  grind
 have two : 0 ≤ 1 + 4 * (bK m * (-(m.fall : Rat) / 2)) := by grind
 have zero : 0 ≤ 1 + 4 * (bK m * (0 : Rat)) := one 0 Rat.le_refl
 by_cases hz : mgD f m = 0
 ·have e : curveL (mgD f m) m.rise m.fall t = [⟨0, 1, 0, 1, 0, 1, 0, 1⟩] := by unfold curveL; rw [if_pos hz]
  rw [e]
  intro p hp
  have : p = qp ⟨0, 1, 0, 1, 0, 1, 0, 1⟩ := by simpa [qL] using hp
  rw [this]
  have : (qp ⟨0, 1, 0, 1, 0, 1, 0, 1⟩).c = 0 := frq_zero
  rw [this]
  exact zero
 ·have tp := top_pos (by have := (inB_iff.1 hd).1; omega) R0 F0 V0 g.top
  rw [qL_curve hz R0 F0 tp]
  intro p hp
  split at hp
  ·simp only [moveS, List.mem_cons, List.not_mem_nil, or_false] at hp
   rcases hp with rfl | rfl | rfl
   ·exact one _ RP
   ·exact two
   ·exact zero
  ·simp only [moveQ, List.mem_cons, List.not_mem_nil, or_false] at hp
   rcases hp with rfl | rfl | rfl | rfl
   ·exact one _ RP
   ·exact zero
   ·exact two
   ·exact zero
theorem Going.slow (_ : Going h f m t) (hz : mgD f m = 0) (x : Rat) : slL (qL (curveL (mgD f m) m.rise m.fall t)) x = 0 := by
 have e : curveL (mgD f m) m.rise m.fall t = [⟨0, 1, 0, 1, 0, 1, 0, 1⟩] := by unfold curveL; rw [if_pos hz]
 rw [e]
 have z : fr (0, 1) = 0 := frq_zero
 have q : qs (qp ⟨0, 1, 0, 1, 0, 1, 0, 1⟩) x = 0 := by
  unfold qs
  show fr (0, 1) + 2 * (fr (0, 1) * (x - fr (0, 1))) = 0
  rw [z]; grind
 show (if (qp ⟨0, 1, 0, 1, 0, 1, 0, 1⟩).f ≤ x then qs (qp ⟨0, 1, 0, 1, 0, 1, 0, 1⟩) x else 0) = 0
 rw [q]
 split <;> rfl
theorem haltQ_err {p v : Int × Int × Int} {F : Int} {up : Bool} (hp : p.2.2 = 0 ∨ p.2.2 = 5) (hv : v.2.2 = 0 ∨ v.2.2 = 5) : (haltQ p v F up).2.2 = 0 ∨ (haltQ p v F up).2.2 = 5 := by
 have a1 : (haltX v).2.2 = 0 ∨ (haltX v).2.2 = 5 := mulP_err _ _ _ _
 have a2 : ∀ x, (haltY x F).2.2 = 0 ∨ (haltY x F).2.2 = 5 := fun x => mulP_err _ _ _ _
 have a3 : ∀ y, (haltZ up p y).2.2 = 0 ∨ (haltZ up p y).2.2 = 5 := fun y => by unfold haltZ; split <;> exact addP_err _ _ _ _
 unfold haltQ
 split
 ·split
  ·split
   ·split
    ·exact a3 _
    ·exact a2 _
   ·exact a1
  ·exact hv
 ·exact hp
theorem haltQ_ok {p v : Int × Int × Int} {F : Int} {up : Bool} (hz : (haltQ p v F up).2.2 = 0) :
  p.2.2 = 0 ∧ v.2.2 = 0 ∧ (haltX v).2.2 = 0 ∧ (haltY (haltX v) F).2.2 = 0 ∧ haltQ p v F up = haltZ up p (haltY (haltX v) F) := by
 unfold haltQ at hz ⊢
 by_cases c1 : p.2.2 = 0
 ·rw [if_pos c1] at hz ⊢
  by_cases c2 : v.2.2 = 0
  ·rw [if_pos c2] at hz ⊢
   by_cases c3 : (haltX v).2.2 = 0
   ·rw [if_pos c3] at hz ⊢
    by_cases c4 : (haltY (haltX v) F).2.2 = 0
    ·rw [if_pos c4]
     exact ⟨c1, c2, c3, c4, rfl⟩
    ·rw [if_neg c4] at hz; exact absurd hz c4
   ·rw [if_neg c3] at hz; exact absurd hz c3
  ·rw [if_neg c2] at hz; exact absurd hz c2
 ·rw [if_neg c1] at hz; exact absurd hz c1
theorem Going.halt (g : Going h f m t) {x : Int × Int} (vx : vF x = true) (hz : (haltQ (atP (mpL f m t) x) (slopeP (mpL f m t) x) m.fall (decide (f < m.to))).2.2 = 0) :
  (atP (mpL f m t) x).2.2 = 0 ∧ vF ((haltQ (atP (mpL f m t) x) (slopeP (mpL f m t) x) m.fall (decide (f < m.to))).1, (haltQ (atP (mpL f m t) x) (slopeP (mpL f m t) x) m.fall (decide (f < m.to))).2.1) = true ∧
  fr ((haltQ (atP (mpL f m t) x) (slopeP (mpL f m t) x) m.fall (decide (f < m.to))).1, (haltQ (atP (mpL f m t) x) (slopeP (mpL f m t) x) m.fall (decide (f < m.to))).2.1) = (if upB f m then (f : Rat) + gL (bK m) (qL (curveL (mgD f m) m.rise m.fall t)) (fr x) else (f : Rat) - gL (bK m) (qL (curveL (mgD f m) m.rise m.fall t)) (fr x)) := by
 obtain ⟨c1, c2, c3, c4, eq⟩ := haltQ_ok hz
 rw [eq] at hz ⊢
 have vp := atP_valid g.ok vx c1
 have vv := slopeP_valid g.ok vx c2
 have ep := g.val vx c1
 have ev := g.slo vx c2
 generalize hpp : atP (mpL f m t) x = p at *
 generalize slopeP (mpL f m t) x = v at *
 obtain ⟨_, vm, _⟩ := given_ok g.gd |>.1 |> fun a => (⟨trivial, a, trivial⟩ : True ∧ validM m = true ∧ True)
 obtain ⟨V0, V1, R0, R1, F0, F1⟩ := valid_bds vm
 obtain ⟨vX, eX⟩ := mulP_ok (a := (v.1, v.2.1)) (b := (v.1, v.2.1)) (den_pos vv) (den_pos vv) c3
 have two : 0 < ((1, 2 * m.fall) : Int × Int).2 := by show 0 < 2 * m.fall; omega
 have eX' : fr ((haltX v).1, (haltX v).2.1) = fr (v.1, v.2.1) * fr (v.1, v.2.1) := eX
 have vX' : vF ((haltX v).1, (haltX v).2.1) = true := vX
 obtain ⟨vY, eY⟩ := mulP_ok (a := ((haltX v).1, (haltX v).2.1)) (b := (1, 2 * m.fall)) (den_pos vX') two c4
 have vY' : vF ((haltY (haltX v) m.fall).1, (haltY (haltX v) m.fall).2.1) = true := vY
 have eY' : fr ((haltY (haltX v) m.fall).1, (haltY (haltX v) m.fall).2.1) = fr (v.1, v.2.1) * fr (v.1, v.2.1) * bK m := by
  have : fr ((haltY (haltX v) m.fall).1, (haltY (haltX v) m.fall).2.1) = fr ((haltX v).1, (haltX v).2.1) * fr (1, 2 * m.fall) := eY
  rw [this, eX']; rfl
 generalize haltY (haltX v) m.fall = y at *
 have sq : fr (v.1, v.2.1) * fr (v.1, v.2.1) = slL (qL (curveL (mgD f m) m.rise m.fall t)) (fr x) * slL (qL (curveL (mgD f m) m.rise m.fall t)) (fr x) := by
  rw [ev]
  split <;> grind
 rw [sq] at eY'
 refine ⟨c1, ?_⟩
 by_cases c : f < m.to
 ·have hu : upB f m = true := by unfold upB; rw [decide_eq_false (by omega)]; rfl
  rw [decide_eq_true c] at hz ⊢
  rw [hu] at ep ⊢
  simp only [if_true] at ep ⊢
  have hz' : (addP p.1 p.2.1 y.1 y.2.1).2.2 = 0 := hz
  obtain ⟨vZ, eZ⟩ := addP_ok (a := (p.1, p.2.1)) (b := (y.1, y.2.1)) (den_pos vp) (den_pos vY') hz'
  refine ⟨vZ, ?_⟩
  show fr ((addP p.1 p.2.1 y.1 y.2.1).1, (addP p.1 p.2.1 y.1 y.2.1).2.1) = _
  rw [eZ, ep, eY']
  unfold gL
  grind
 ·rw [decide_eq_false c] at hz ⊢
  have hz' : (addP p.1 p.2.1 (-y.1) y.2.1).2.2 = 0 := hz
  obtain ⟨vZ, eZ⟩ := addP_ok (a := (p.1, p.2.1)) (b := (-y.1, y.2.1)) (den_pos vp) (show 0 < y.2.1 from den_pos vY') hz'
  refine ⟨vZ, ?_⟩
  show fr ((addP p.1 p.2.1 (-y.1) y.2.1).1, (addP p.1 p.2.1 (-y.1) y.2.1).2.1) = _
  have ng : fr (-y.1, y.2.1) = -fr (y.1, y.2.1) := frq_neg (y.1, y.2.1)
  rw [eZ, ep, ng, eY']
  by_cases c' : m.to < f
  ·have hu : upB f m = false := by unfold upB; rw [decide_eq_true c']; rfl
   rw [hu]
   simp only [Bool.false_eq_true, if_false]
   unfold gL
   grind
  ·have hu : upB f m = true := by unfold upB; rw [decide_eq_false c']; rfl
   have hd : mgD f m = 0 := by unfold mgD; split <;> omega
   rw [hu]
   simp only [if_true]
   unfold gL
   rw [g.slow hd]
   grind
def sgn (f : Int) (m : Mv) : Int := if m.to < f then -1 else 1
def Far (s : Int) (x y : Int × Int) : Prop := vF x = true ∧ vF y = true ∧ ((s = 1 ∧ fr x ≤ fr y) ∨ (s = -1 ∧ fr y ≤ fr x))
theorem halt_cases (e : mgE h f m = 0) {x : Int × Int} (vx : vF x = true) :
  (x.1 < 0 ∧ haltP h f m x t = (0, 0, 2)) ∨ (0 ≤ x.1 ∧ haltP h f m x t = haltQ (atP (mpL f m t) x) (slopeP (mpL f m t) x) m.fall (decide (f < m.to)) ∧ ((haltP h f m x t).2.2 = 0 ∨ (haltP h f m x t).2.2 = 5)) := by
 obtain ⟨hB, vm, _⟩ := mg_ok e
 have hE : mtE h f m x = if x.1 < 0 then 2 else 0 := by unfold mtE; rw [if_pos ⟨hB, vm, vx⟩, if_pos e]
 unfold haltP
 rw [hE]
 by_cases c : x.1 < 0
 ·left
  rw [if_pos c, if_neg (by decide)]
  exact ⟨c, rfl⟩
 ·right
  rw [if_neg c, if_pos rfl]
  exact ⟨by omega, rfl, haltQ_err (atP_err vx) (slopeP_err vx)⟩
structure StopsOK (f : Int) (m : Mv) (A B Q : Int × Int × Int) (T P : Int × Int) : Prop where
 one : Far (sgn f m) (Q.1, Q.2.1) (A.1, A.2.1)
 two : Far (sgn f m) (A.1, A.2.1) (B.1, B.2.1)
 three : Far (sgn f m) (B.1, B.2.1) (m.to, 1)
 late : 0 ≤ cmpP (T.1 * P.2) (P.1 * T.2) → B = (m.to, 1, 0)
theorem stops_pair (e : mgE h f m = 0) (g : Going h f m t) {S T : Int × Int} (vS : vF S = true) (vT : vF T = true) (hle : S.1 * T.2 ≤ T.1 * S.2) (ha : (haltP h f m S t).2.2 = 0) :
  (haltP h f m T t).2.2 = 5 ∨ ((haltP h f m T t).2.2 = 0 ∧ (matP h f m S t).2.2 = 0 ∧ StopsOK f m (haltP h f m S t) (haltP h f m T t) (matP h f m S t) T (timeP (mgD f m) m t)) := by
 rcases halt_cases (t := t) e vS with ⟨_, eA⟩ | ⟨s0, eA, _⟩
 ·rw [eA] at ha; exact absurd ha (by decide)
 ·have fle : fr S ≤ fr T := (frq_le (den_pos vS) (den_pos vT)).2 hle
  have t0 : 0 ≤ T.1 := by
   have a := fr_nonneg vS s0
   have b : fr (0, 1) ≤ fr T := by rw [frq_zero]; grind
   have c := (frq_le (a := (0, 1)) (by decide) (den_pos vT)).1 b
   have c' : 0 * T.2 ≤ T.1 * 1 := c
   omega
  rcases halt_cases (t := t) e vT with ⟨tn, _⟩ | ⟨_, eB, be⟩
  ·omega
  ·rcases be with be | be
   ·right
    rcases mat_cases (t := t) e vS with ⟨sn, _⟩ | ⟨_, eQ, _⟩
    ·omega
    ·refine ⟨be, ?_⟩
     rw [eA] at ha ⊢
     rw [eB] at be ⊢
     rw [eQ]
     obtain ⟨qz, vA, fA⟩ := g.halt vS ha
     obtain ⟨_, vB, fB⟩ := g.halt vT be
     have fQ := g.val vS qz
     have vQ := atP_valid g.ok vS qz
     refine ⟨qz, ?_⟩
     obtain ⟨hv, _⟩ := given_ok g.gd
     obtain ⟨_, _, _, _, F0, _⟩ := valid_bds hv
     have K0 := bK_pos (m := m) F0
     have m1 := gL_ge K0 (qL (curveL (mgD f m) m.rise m.fall t)) (fr S)
     have m2 := g.mc.up.gmono K0 g.brakes fle
     have m3 := g.mc.up.gtop K0 g.brakes (fr T)
     rw [g.mc.last.1] at m3
     have ud := up_dist (f := f) (m := m)
     have vto := g.vto
     have fto : fr (m.to, 1) = (m.to : Rat) := frq_one m.to
     have hs : (upB f m = true ∧ sgn f m = 1) ∨ (upB f m = false ∧ sgn f m = -1) := by
      unfold upB sgn
      by_cases c : m.to < f
      ·right; rw [decide_eq_true c, if_pos c]; exact ⟨rfl, rfl⟩
      ·left; rw [decide_eq_false c, if_neg c]; exact ⟨rfl, rfl⟩
     refine ⟨⟨vQ, vA, ?_⟩, ⟨vA, vB, ?_⟩, ⟨vB, vto, ?_⟩, fun c => ?_⟩
     ·rw [fQ, fA]
      rcases hs with ⟨u, s⟩ | ⟨u, s⟩
      ·left; rw [u]; simp only [if_true]; exact ⟨s, by grind⟩
      ·right; rw [u]; simp only [Bool.false_eq_true, if_false]; exact ⟨s, by grind⟩
     ·rw [fA, fB]
      rcases hs with ⟨u, s⟩ | ⟨u, s⟩
      ·left; rw [u]; simp only [if_true]; exact ⟨s, by grind⟩
      ·right; rw [u]; simp only [Bool.false_eq_true, if_false]; exact ⟨s, by grind⟩
     ·rw [fB, fto, ud]
      rcases hs with ⟨u, s⟩ | ⟨u, s⟩
      ·left; rw [u]; simp only [if_true]; exact ⟨s, by grind⟩
      ·right; rw [u]; simp only [Bool.false_eq_true, if_false]; exact ⟨s, by grind⟩
     ·have lt := (frq_le (den_pos (time_vF g.gd g.top)) (den_pos vT)).2 (cmp_nle c)
      have ga := g.mc.up.gafter (K := bK m) (by rw [lastF_time g.gd g.top]; exact lt)
      rw [ga, g.mc.last.1, ← ud] at fB
      exact triple (frq_inj vB vto (by rw [fB, fto])) be
   ·left; exact be
end
end Go.Proofs.Ytbgkgahmicepdaa
namespace Go.Proofs.Ytbgkgahmicepdaa
open Go.RowKit Go.Shelf
attribute [local go_sem] Oper.semAt_some
theorem far_cmp {s : Int} {x y : Int × Int} (h : Far s x y) : ∃ C, cmpG x y = (C, 0) ∧ decide (s * C ≤ 0) = true ∧ IntKind.i64.wrap (s * C) = s * C := by
 obtain ⟨vx, vy, h⟩ := h
 refine ⟨_, cmpG_ok vx vy, ?_, ?_⟩
 ·rcases h with ⟨rfl, l⟩ | ⟨rfl, l⟩
  ·have := of_decide_eq_true (cmp_le ((frq_le (den_pos vx) (den_pos vy)).1 l))
   exact decide_eq_true (by omega)
  ·have := of_decide_eq_true (cmp_ge ((frq_le (den_pos vy) (den_pos vx)).1 l))
   exact decide_eq_true (by omega)
 ·have b : -1 ≤ cmpP (x.1 * y.2) (y.1 * x.2) ∧ cmpP (x.1 * y.2) (y.1 * x.2) ≤ 1 := by
   unfold cmpP
   split
   ·decide
   ·split <;> decide
  rcases h with ⟨rfl, _⟩ | ⟨rfl, _⟩
  ·exact IntWalk.i64_in _ (by omega)
  ·exact IntWalk.i64_in _ (by omega)
set_option maxRecDepth 100000 in
set_option maxHeartbeats 4000000 in
theorem far_any (s : Int) (x y : Int × Int) (hf : Far s x y) (B : Nat) (w : World) (hc : w.cell? ⟨B, 0, none⟩ = some (.int .i64 s)) :
  Calls Try.prog 14 #[.agg #[.int .i64 x.1, .int .i64 x.2], .agg #[.int .i64 y.1, .int .i64 y.2], .pointer (some ⟨B, 0, none⟩)] w fun e w' => e = .returned (.bool true) ∧ Below w.heap.size w w' := by
 obtain ⟨C, hC, g1, g2⟩ := far_cmp hf
 have HC := Lib.hid (cmp_gen x y)
 rw [hC] at HC
 clear hC hf
 have hl : B < w.heap.size := World.block_lt_of_cell? _ _ hc
 have hHC := Lib.hid hc
 go_enter Try.func14, Try.ntmps14
 go_upto_region 1 with (fail)
 have fx := (FI.put w x.1 x.2 29).carry (below_new (w.alloc (.cells #[.int .i64 x.1, .int .i64 x.2] 29)) (.cells #[.int .i64 y.1, .int .i64 y.2] 29))
 have fy := FI.put (w.alloc (.cells #[.int .i64 x.1, .int .i64 x.2] 29)) y.1 y.2 29
 have hz : (w.alloc (.cells #[.int .i64 x.1, .int .i64 x.2] 29)).heap.size = w.heap.size + 1 := by simp
 rw [hz] at fy
 have hB := (below_new w (.cells #[.int .i64 x.1, .int .i64 x.2] 29)).alloc (by simp) (.cells #[.int .i64 y.1, .int .i64 y.2] 29)
 clear hz hc
 generalize ((w.alloc (.cells #[.int .i64 x.1, .int .i64 x.2] 29)).alloc (.cells #[.int .i64 y.1, .int .i64 y.2] 29)) = W0 at *
 obtain ⟨x0, x1, _⟩ := fx
 obtain ⟨y0, y1, _⟩ := fy
 go_wp2_with (go_at_call 12; (with_reducible refine (HC.out _).mono ?_); rintro e w2 ⟨rfl, hb2⟩; have hB2 := hB.trans (hb2.mono hB.size); have hs := (hB2.cell (p := ⟨B, 0, none⟩) hl).trans hHC.out)
 go_ret
 exact ⟨rfl, hB2⟩
end Go.Proofs.Ytbgkgahmicepdaa
namespace Go.Proofs.Ytbgkgahmicepdaa
open Go.RowKit Go.Shelf
attribute [local go_sem] Oper.semAt_some
noncomputable def stCode (n : Nat) : Code := ((Try.f4.body.bind (regionIn n)).getD .skip)
def CellAt (w : World) (b : Nat) (v : Value) : Prop := w.cell? ⟨b, 0, none⟩ = some v
theorem CellAt.carry {w w' : World} {b : Nat} {v : Value} (x : CellAt w b v) (hb : Below w.heap.size w w') : CellAt w' b v := (hb.cell (p := ⟨b, 0, none⟩) (World.block_lt_of_cell? _ _ x)).trans x
theorem CellAt.new (w : World) (v : Value) (t : TypeId) : CellAt (w.alloc (.cells #[v] t)) w.heap.size v := by unfold CellAt; simp
set_option maxRecDepth 100000 in
set_option maxHeartbeats 8000000 in
theorem stR21a {m : Mv} {o : Int} {A Q : Int × Int × Int} {Ba Bb Bp Bm Bg : Nat} {W0 : World} {u0 u1 u2 u3 u4 u5 u6 u8 u9 u10 u11 u12 u14 u16 u18 u19 u20 u21 u25 u26 u27 u28 u29 u30 u31 u32 u33 u34 u35 u36 u37 u38 u39 u40 u41 u42 u43 u44 u45 u46 u47 u48 u49 u50 u51 u52 u53 u54 u55 u56 u57 u58 u59 u60 u61 u62 u63 u64 u65 u66 u67 u68 u69 u70 u71 u72 u73 u74 u75 u76 u77 u78 u79 u80 u81 u82 u83 u84 u85 u86 u87 u88 u89 u90 u91 u92 u93 u94 u95 u96 u97 u98 u99 u100 u101 u102 u103 u104 u105 u106 u107 u108 u109 u110 u111 u112 u113 u114 u115 u116 u117 u118 u119 u120 u121 u122 u123 u124 u125 u126 u127 u128 u129 u130 u131 u132 u133 u134 u135 u136 u137 u138 u139 u140 u141 : Value} {R : List Value} {K : Act → World → Prop} {Q0 : Exit → Act → World → Prop}
  (HF1 : Hid (∀ w', Below W0.heap.size W0 w' → Calls Try.prog 14 #[.agg #[.int .i64 Q.1, .int .i64 Q.2.1], .agg #[.int .i64 A.1, .int .i64 A.2.1], .pointer (some ⟨Bg, 0, none⟩)] w' fun e w2 => e = .returned (.bool true) ∧ Below w'.heap.size w' w2)) (HF2 : Hid (∀ w', Below W0.heap.size W0 w' → Calls Try.prog 14 #[.agg #[.int .i64 A.1, .int .i64 A.2.1], .agg #[.int .i64 m.to, .int .i64 1], .pointer (some ⟨Bg, 0, none⟩)] w' fun e w2 => e = .returned (.bool true) ∧ Below w'.heap.size w' w2)) (HF3 : Hid (∀ w', Below W0.heap.size W0 w' → Calls Try.prog 14 #[.agg #[.int .i64 m.to, .int .i64 1], .agg #[.int .i64 m.to, .int .i64 1], .pointer (some ⟨Bg, 0, none⟩)] w' fun e w2 => e = .returned (.bool true) ∧ Below w'.heap.size w' w2)) (_ho : decide (o < 0) = false) (_r2 : (m.to == m.to) = true) (HX : Hid (∀ w', Below W0.heap.size W0 w' → (fun w' => w'.cell? ⟨Bp, 0, none⟩ = some (.int .i64 Q.1) ∧ w'.cell? ⟨Bp, 1, none⟩ = some (.int .i64 Q.2.1) ∧ w'.cell? ⟨Ba, 0, none⟩ = some (.int .i64 A.1) ∧ w'.cell? ⟨Ba, 1, none⟩ = some (.int .i64 A.2.1) ∧ w'.cell? ⟨Bb, 0, none⟩ = some (.int .i64 m.to) ∧ w'.cell? ⟨Bb, 1, none⟩ = some (.int .i64 1) ∧ w'.cell? ⟨Bm, 1, none⟩ = some (.int .i64 m.to)) w'))
  (hK : ∀ (v10 v109 v110 v111 v112 v113 v114 v115 v116 v117 v118 v119 v120 v121 v122 v123 v124 v125 v126 v127 v128 v129 v130 v131 v132 v133 v134 v135 v136 v137 v138 v139 v140 v141 : Value) (wx : World), (v10 = .bool true ∧ Below W0.heap.size W0 wx) → K ⟨List.toArray (u0 :: u1 :: u2 :: u3 :: u4 :: u5 :: u6 :: .pointer (some ⟨Bm, 0, none⟩) :: u8 :: u9 :: v10 :: u11 :: u12 :: .pointer (some ⟨Ba, 0, none⟩) :: u14 :: .pointer (some ⟨Bb, 0, none⟩) :: u16 :: .pointer (some ⟨Bp, 0, none⟩) :: u18 :: u19 :: u20 :: u21 :: .func (.func 14) #[] #[.pointer (some ⟨Bg, 0, none⟩)] :: .int .i64 o :: .int .i64 0 :: u25 :: u26 :: u27 :: u28 :: u29 :: u30 :: u31 :: u32 :: u33 :: u34 :: u35 :: u36 :: u37 :: u38 :: u39 :: u40 :: u41 :: u42 :: u43 :: u44 :: u45 :: u46 :: u47 :: u48 :: u49 :: u50 :: u51 :: u52 :: u53 :: u54 :: u55 :: u56 :: u57 :: u58 :: u59 :: u60 :: u61 :: u62 :: u63 :: u64 :: u65 :: u66 :: u67 :: u68 :: u69 :: u70 :: u71 :: u72 :: u73 :: u74 :: u75 :: u76 :: u77 :: u78 :: u79 :: u80 :: u81 :: u82 :: u83 :: u84 :: u85 :: u86 :: u87 :: u88 :: u89 :: u90 :: u91 :: u92 :: u93 :: u94 :: u95 :: u96 :: u97 :: u98 :: u99 :: u100 :: u101 :: u102 :: u103 :: u104 :: u105 :: u106 :: u107 :: u108 :: v109 :: v110 :: v111 :: v112 :: v113 :: v114 :: v115 :: v116 :: v117 :: v118 :: v119 :: v120 :: v121 :: v122 :: v123 :: v124 :: v125 :: v126 :: v127 :: v128 :: v129 :: v130 :: v131 :: v132 :: v133 :: v134 :: v135 :: v136 :: v137 :: v138 :: v139 :: v140 :: v141 :: R), []⟩ wx) :
  Code.wp Try.prog (stCode 21) (Exit.then K Q0) ⟨List.toArray (u0 :: u1 :: u2 :: u3 :: u4 :: u5 :: u6 :: .pointer (some ⟨Bm, 0, none⟩) :: u8 :: u9 :: u10 :: u11 :: u12 :: .pointer (some ⟨Ba, 0, none⟩) :: u14 :: .pointer (some ⟨Bb, 0, none⟩) :: u16 :: .pointer (some ⟨Bp, 0, none⟩) :: u18 :: u19 :: u20 :: u21 :: .func (.func 14) #[] #[.pointer (some ⟨Bg, 0, none⟩)] :: .int .i64 o :: .int .i64 0 :: u25 :: u26 :: u27 :: u28 :: u29 :: u30 :: u31 :: u32 :: u33 :: u34 :: u35 :: u36 :: u37 :: u38 :: u39 :: u40 :: u41 :: u42 :: u43 :: u44 :: u45 :: u46 :: u47 :: u48 :: u49 :: u50 :: u51 :: u52 :: u53 :: u54 :: u55 :: u56 :: u57 :: u58 :: u59 :: u60 :: u61 :: u62 :: u63 :: u64 :: u65 :: u66 :: u67 :: u68 :: u69 :: u70 :: u71 :: u72 :: u73 :: u74 :: u75 :: u76 :: u77 :: u78 :: u79 :: u80 :: u81 :: u82 :: u83 :: u84 :: u85 :: u86 :: u87 :: u88 :: u89 :: u90 :: u91 :: u92 :: u93 :: u94 :: u95 :: u96 :: u97 :: u98 :: u99 :: u100 :: u101 :: u102 :: u103 :: u104 :: u105 :: u106 :: u107 :: u108 :: u109 :: u110 :: u111 :: u112 :: u113 :: u114 :: u115 :: u116 :: u117 :: u118 :: u119 :: u120 :: u121 :: u122 :: u123 :: u124 :: u125 :: u126 :: u127 :: u128 :: u129 :: u130 :: u131 :: u132 :: u133 :: u134 :: u135 :: u136 :: u137 :: u138 :: u139 :: u140 :: u141 :: R), []⟩ W0 := by
 conv => arg 2; whnf
 refine wp_region_noPanic ?_
 refine wp_region_held_drew (S := fun w' => w'.cell? ⟨Bp, 0, none⟩ = some (.int .i64 Q.1) ∧ w'.cell? ⟨Bp, 1, none⟩ = some (.int .i64 Q.2.1) ∧ w'.cell? ⟨Ba, 0, none⟩ = some (.int .i64 A.1) ∧ w'.cell? ⟨Ba, 1, none⟩ = some (.int .i64 A.2.1) ∧ w'.cell? ⟨Bb, 0, none⟩ = some (.int .i64 m.to) ∧ w'.cell? ⟨Bb, 1, none⟩ = some (.int .i64 1) ∧ w'.cell? ⟨Bm, 1, none⟩ = some (.int .i64 m.to)) (by kernel_rfl) (HX.out _ (Below.refl _ _).drew) (fun hHeld => ?_)
 have hB0 := (Below.refl W0.heap.size W0).drew
 obtain ⟨w0, hw0⟩ : ∃ x, W0.drew = x := ⟨_, rfl⟩
 simp only [hw0] at hB0 hHeld ⊢
 clear hw0
 refine tkD 0 ?_
 simp only [Act.put, List.setIfInBounds_toArray, List.set_cons_zero, List.set_cons_succ]
 refine tkD 1 ?_
 simp only [Act.put, List.setIfInBounds_toArray, List.set_cons_zero, List.set_cons_succ]
 refine tkD 2 ?_
 simp only [Act.put, List.setIfInBounds_toArray, List.set_cons_zero, List.set_cons_succ]
 refine wpAnyH_ready (rs := [3]) (by kernel_rfl) (by simp) ?_
 refine tkC (fun K hK => ?_) (AllReadyH.nil)
 go_simp
 (go_at_call 14; go_split_ands; (with_reducible refine (HF1.out _ (by with_reducible assumption)).mono ?_); rintro e w1 ⟨rfl, hb1⟩)
 go_wp2_with fail
 have hB1 := hB0.trans (hb1.mono hB0.size)
 refine hK.out _ _ (HX.out _ hB1) (fun hHeld => ?_)
 clear hK K
 try simp only [Act.put, List.setIfInBounds_toArray, List.set_cons_zero, List.set_cons_succ]
 refine tkD 4 ?_
 simp only [Act.put, List.setIfInBounds_toArray, List.set_cons_zero, List.set_cons_succ]
 refine tkD 5 ?_
 simp only [Act.put, List.setIfInBounds_toArray, List.set_cons_zero, List.set_cons_succ]
 refine tkD 6 ?_
 simp only [Act.put, List.setIfInBounds_toArray, List.set_cons_zero, List.set_cons_succ]
 refine tkD 7 ?_
 simp only [Act.put, List.setIfInBounds_toArray, List.set_cons_zero, List.set_cons_succ]
 refine wpAnyH_ready (rs := [8]) (by kernel_rfl) (by simp) ?_
 refine tkC (fun K hK => ?_) (AllReadyH.nil)
 go_simp
 (go_at_call 14; go_split_ands; (with_reducible refine (HF2.out _ (by with_reducible assumption)).mono ?_); rintro e w2 ⟨rfl, hb2⟩)
 go_wp2_with fail
 have hB2 := hB1.trans (hb2.mono hB1.size)
 refine hK.out _ _ (HX.out _ hB2) (fun hHeld => ?_)
 clear hK K
 try simp only [Act.put, List.setIfInBounds_toArray, List.set_cons_zero, List.set_cons_succ]
 refine tkD 9 ?_
 simp only [Act.put, List.setIfInBounds_toArray, List.set_cons_zero, List.set_cons_succ]
 refine tkD 10 ?_
 simp only [Act.put, List.setIfInBounds_toArray, List.set_cons_zero, List.set_cons_succ]
 refine tkD 11 ?_
 simp only [Act.put, List.setIfInBounds_toArray, List.set_cons_zero, List.set_cons_succ]
 refine tkD 12 ?_
 simp only [Act.put, List.setIfInBounds_toArray, List.set_cons_zero, List.set_cons_succ]
 refine tkD 13 ?_
 simp only [Act.put, List.setIfInBounds_toArray, List.set_cons_zero, List.set_cons_succ]
 refine tkD 14 ?_
 simp only [Act.put, List.setIfInBounds_toArray, List.set_cons_zero, List.set_cons_succ]
 refine wpAnyH_ready (rs := [15]) (by kernel_rfl) (by simp) ?_
 refine tkC (fun K hK => ?_) (AllReadyH.nil)
 go_simp
 (go_at_call 11; go_split_ands; (with_reducible refine (lwhole_any m.to _).mono ?_); rintro e w3 ⟨rfl, hb3⟩)
 go_wp2_with fail
 have hB3 := hB2.trans (hb3.mono hB2.size)
 refine hK.out _ _ (HX.out _ hB3) (fun hHeld => ?_)
 clear hK K
 try simp only [Act.put, List.setIfInBounds_toArray, List.set_cons_zero, List.set_cons_succ]
 refine wpAnyH_ready (rs := [16]) (by kernel_rfl) (by simp) ?_
 refine tkC (fun K hK => ?_) (AllReadyH.nil)
 go_simp
 (go_at_call 14; go_split_ands; (with_reducible refine (HF3.out _ (by with_reducible assumption)).mono ?_); rintro e w4 ⟨rfl, hb4⟩)
 go_wp2_with fail
 have hB4 := hB3.trans (hb4.mono hB3.size)
 refine hK.out _ _ (HX.out _ hB4) (fun hHeld => ?_)
 clear hK K
 try simp only [Act.put, List.setIfInBounds_toArray, List.set_cons_zero, List.set_cons_succ]
 refine tkD 17 ?_
 simp only [Act.put, List.setIfInBounds_toArray, List.set_cons_zero, List.set_cons_succ]
 refine tkD 18 ?_
 simp only [Act.put, List.setIfInBounds_toArray, List.set_cons_zero, List.set_cons_succ]
 refine tkD 19 ?_
 simp only [Act.put, List.setIfInBounds_toArray, List.set_cons_zero, List.set_cons_succ]
 refine tkD 20 ?_
 simp only [Act.put, List.setIfInBounds_toArray, List.set_cons_zero, List.set_cons_succ]
 refine tkD 21 ?_
 simp only [Act.put, List.setIfInBounds_toArray, List.set_cons_zero, List.set_cons_succ]
 refine tkD 22 ?_
 simp only [Act.put, List.setIfInBounds_toArray, List.set_cons_zero, List.set_cons_succ]
 refine tkD 23 ?_
 simp only [Act.put, List.setIfInBounds_toArray, List.set_cons_zero, List.set_cons_succ]
 refine tkD 24 ?_
 simp only [Act.put, List.setIfInBounds_toArray, List.set_cons_zero, List.set_cons_succ]
 refine tkD 25 ?_
 simp only [Act.put, List.setIfInBounds_toArray, List.set_cons_zero, List.set_cons_succ]
 refine tkD 26 ?_
 simp only [Act.put, List.setIfInBounds_toArray, List.set_cons_zero, List.set_cons_succ]
 refine tkD 27 ?_
 simp only [Act.put, List.setIfInBounds_toArray, List.set_cons_zero, List.set_cons_succ]
 refine tkD 28 ?_
 simp only [Act.put, List.setIfInBounds_toArray, List.set_cons_zero, List.set_cons_succ]
 refine wpAnyH_ready (rs := [29]) (by kernel_rfl) (by simp) ?_
 refine tkC (fun K hK => ?_) (AllReadyH.nil)
 go_simp
 (go_at_call 11; go_split_ands; (with_reducible refine (lwhole_any m.to _).mono ?_); rintro e w5 ⟨rfl, hb5⟩)
 go_wp2_with fail
 have hB5 := hB4.trans (hb5.mono hB4.size)
 refine hK.out _ _ (HX.out _ hB5) (fun hHeld => ?_)
 clear hK K
 try simp only [Act.put, List.setIfInBounds_toArray, List.set_cons_zero, List.set_cons_succ]
 refine tkD 30 ?_
 simp only [Act.put, List.setIfInBounds_toArray, List.set_cons_zero, List.set_cons_succ]
 refine tkD 31 ?_
 simp only [Act.put, List.setIfInBounds_toArray, List.set_cons_zero, List.set_cons_succ]
 refine tkD 32 ?_
 simp only [Act.put, List.setIfInBounds_toArray, List.set_cons_zero, List.set_cons_succ]
 refine tkD 33 ?_
 simp only [Act.put, List.setIfInBounds_toArray, List.set_cons_zero, List.set_cons_succ]
 refine wpAnyH_done (by kernel_rfl) ?_ _
 have hB := hB5
 exact hK _ _ _ _ _ _ _ _ _ _ _ _ _ _ _ _ _ _ _ _ _ _ _ _ _ _ _ _ _ _ _ _ _ _ _ ⟨rfl, hB⟩
set_option maxRecDepth 100000 in
set_option maxHeartbeats 8000000 in
theorem stR21b {m : Mv} {o : Int} {A B Q : Int × Int × Int} {Ba Bb Bp Bm Bg : Nat} {W0 : World} {u0 u1 u2 u3 u4 u5 u6 u8 u9 u10 u11 u12 u14 u16 u18 u19 u20 u21 u25 u26 u27 u28 u29 u30 u31 u32 u33 u34 u35 u36 u37 u38 u39 u40 u41 u42 u43 u44 u45 u46 u47 u48 u49 u50 u51 u52 u53 u54 u55 u56 u57 u58 u59 u60 u61 u62 u63 u64 u65 u66 u67 u68 u69 u70 u71 u72 u73 u74 u75 u76 u77 u78 u79 u80 u81 u82 u83 u84 u85 u86 u87 u88 u89 u90 u91 u92 u93 u94 u95 u96 u97 u98 u99 u100 u101 u102 u103 u104 u105 u106 u107 u108 u109 u110 u111 u112 u113 u114 u115 u116 u117 u118 u119 u120 u121 u122 u123 u124 u125 u126 u127 u128 u129 u130 u131 u132 u133 u134 u135 u136 u137 u138 u139 u140 u141 : Value} {R : List Value} {K : Act → World → Prop} {Q0 : Exit → Act → World → Prop}
  (HF1 : Hid (∀ w', Below W0.heap.size W0 w' → Calls Try.prog 14 #[.agg #[.int .i64 Q.1, .int .i64 Q.2.1], .agg #[.int .i64 A.1, .int .i64 A.2.1], .pointer (some ⟨Bg, 0, none⟩)] w' fun e w2 => e = .returned (.bool true) ∧ Below w'.heap.size w' w2)) (HF2 : Hid (∀ w', Below W0.heap.size W0 w' → Calls Try.prog 14 #[.agg #[.int .i64 A.1, .int .i64 A.2.1], .agg #[.int .i64 B.1, .int .i64 B.2.1], .pointer (some ⟨Bg, 0, none⟩)] w' fun e w2 => e = .returned (.bool true) ∧ Below w'.heap.size w' w2)) (HF3 : Hid (∀ w', Below W0.heap.size W0 w' → Calls Try.prog 14 #[.agg #[.int .i64 B.1, .int .i64 B.2.1], .agg #[.int .i64 m.to, .int .i64 1], .pointer (some ⟨Bg, 0, none⟩)] w' fun e w2 => e = .returned (.bool true) ∧ Below w'.heap.size w' w2)) (_ho : decide (o < 0) = true) (HX : Hid (∀ w', Below W0.heap.size W0 w' → (fun w' => w'.cell? ⟨Bp, 0, none⟩ = some (.int .i64 Q.1) ∧ w'.cell? ⟨Bp, 1, none⟩ = some (.int .i64 Q.2.1) ∧ w'.cell? ⟨Ba, 0, none⟩ = some (.int .i64 A.1) ∧ w'.cell? ⟨Ba, 1, none⟩ = some (.int .i64 A.2.1) ∧ w'.cell? ⟨Bb, 0, none⟩ = some (.int .i64 B.1) ∧ w'.cell? ⟨Bb, 1, none⟩ = some (.int .i64 B.2.1) ∧ w'.cell? ⟨Bm, 1, none⟩ = some (.int .i64 m.to)) w'))
  (hK : ∀ (v10 v109 v110 v111 v112 v113 v114 v115 v116 v117 v118 v119 v120 v121 v122 v123 v124 v125 v126 v127 v128 v129 v130 v131 v132 v133 v134 v135 v136 v137 v138 v139 v140 v141 : Value) (wx : World), (v10 = .bool true ∧ Below W0.heap.size W0 wx) → K ⟨List.toArray (u0 :: u1 :: u2 :: u3 :: u4 :: u5 :: u6 :: .pointer (some ⟨Bm, 0, none⟩) :: u8 :: u9 :: v10 :: u11 :: u12 :: .pointer (some ⟨Ba, 0, none⟩) :: u14 :: .pointer (some ⟨Bb, 0, none⟩) :: u16 :: .pointer (some ⟨Bp, 0, none⟩) :: u18 :: u19 :: u20 :: u21 :: .func (.func 14) #[] #[.pointer (some ⟨Bg, 0, none⟩)] :: .int .i64 o :: .int .i64 0 :: u25 :: u26 :: u27 :: u28 :: u29 :: u30 :: u31 :: u32 :: u33 :: u34 :: u35 :: u36 :: u37 :: u38 :: u39 :: u40 :: u41 :: u42 :: u43 :: u44 :: u45 :: u46 :: u47 :: u48 :: u49 :: u50 :: u51 :: u52 :: u53 :: u54 :: u55 :: u56 :: u57 :: u58 :: u59 :: u60 :: u61 :: u62 :: u63 :: u64 :: u65 :: u66 :: u67 :: u68 :: u69 :: u70 :: u71 :: u72 :: u73 :: u74 :: u75 :: u76 :: u77 :: u78 :: u79 :: u80 :: u81 :: u82 :: u83 :: u84 :: u85 :: u86 :: u87 :: u88 :: u89 :: u90 :: u91 :: u92 :: u93 :: u94 :: u95 :: u96 :: u97 :: u98 :: u99 :: u100 :: u101 :: u102 :: u103 :: u104 :: u105 :: u106 :: u107 :: u108 :: v109 :: v110 :: v111 :: v112 :: v113 :: v114 :: v115 :: v116 :: v117 :: v118 :: v119 :: v120 :: v121 :: v122 :: v123 :: v124 :: v125 :: v126 :: v127 :: v128 :: v129 :: v130 :: v131 :: v132 :: v133 :: v134 :: v135 :: v136 :: v137 :: v138 :: v139 :: v140 :: v141 :: R), []⟩ wx) :
  Code.wp Try.prog (stCode 21) (Exit.then K Q0) ⟨List.toArray (u0 :: u1 :: u2 :: u3 :: u4 :: u5 :: u6 :: .pointer (some ⟨Bm, 0, none⟩) :: u8 :: u9 :: u10 :: u11 :: u12 :: .pointer (some ⟨Ba, 0, none⟩) :: u14 :: .pointer (some ⟨Bb, 0, none⟩) :: u16 :: .pointer (some ⟨Bp, 0, none⟩) :: u18 :: u19 :: u20 :: u21 :: .func (.func 14) #[] #[.pointer (some ⟨Bg, 0, none⟩)] :: .int .i64 o :: .int .i64 0 :: u25 :: u26 :: u27 :: u28 :: u29 :: u30 :: u31 :: u32 :: u33 :: u34 :: u35 :: u36 :: u37 :: u38 :: u39 :: u40 :: u41 :: u42 :: u43 :: u44 :: u45 :: u46 :: u47 :: u48 :: u49 :: u50 :: u51 :: u52 :: u53 :: u54 :: u55 :: u56 :: u57 :: u58 :: u59 :: u60 :: u61 :: u62 :: u63 :: u64 :: u65 :: u66 :: u67 :: u68 :: u69 :: u70 :: u71 :: u72 :: u73 :: u74 :: u75 :: u76 :: u77 :: u78 :: u79 :: u80 :: u81 :: u82 :: u83 :: u84 :: u85 :: u86 :: u87 :: u88 :: u89 :: u90 :: u91 :: u92 :: u93 :: u94 :: u95 :: u96 :: u97 :: u98 :: u99 :: u100 :: u101 :: u102 :: u103 :: u104 :: u105 :: u106 :: u107 :: u108 :: u109 :: u110 :: u111 :: u112 :: u113 :: u114 :: u115 :: u116 :: u117 :: u118 :: u119 :: u120 :: u121 :: u122 :: u123 :: u124 :: u125 :: u126 :: u127 :: u128 :: u129 :: u130 :: u131 :: u132 :: u133 :: u134 :: u135 :: u136 :: u137 :: u138 :: u139 :: u140 :: u141 :: R), []⟩ W0 := by
 conv => arg 2; whnf
 refine wp_region_noPanic ?_
 refine wp_region_held_drew (S := fun w' => w'.cell? ⟨Bp, 0, none⟩ = some (.int .i64 Q.1) ∧ w'.cell? ⟨Bp, 1, none⟩ = some (.int .i64 Q.2.1) ∧ w'.cell? ⟨Ba, 0, none⟩ = some (.int .i64 A.1) ∧ w'.cell? ⟨Ba, 1, none⟩ = some (.int .i64 A.2.1) ∧ w'.cell? ⟨Bb, 0, none⟩ = some (.int .i64 B.1) ∧ w'.cell? ⟨Bb, 1, none⟩ = some (.int .i64 B.2.1) ∧ w'.cell? ⟨Bm, 1, none⟩ = some (.int .i64 m.to)) (by kernel_rfl) (HX.out _ (Below.refl _ _).drew) (fun hHeld => ?_)
 have hB0 := (Below.refl W0.heap.size W0).drew
 obtain ⟨w0, hw0⟩ : ∃ x, W0.drew = x := ⟨_, rfl⟩
 simp only [hw0] at hB0 hHeld ⊢
 clear hw0
 refine tkD 0 ?_
 simp only [Act.put, List.setIfInBounds_toArray, List.set_cons_zero, List.set_cons_succ]
 refine tkD 1 ?_
 simp only [Act.put, List.setIfInBounds_toArray, List.set_cons_zero, List.set_cons_succ]
 refine tkD 2 ?_
 simp only [Act.put, List.setIfInBounds_toArray, List.set_cons_zero, List.set_cons_succ]
 refine wpAnyH_ready (rs := [3]) (by kernel_rfl) (by simp) ?_
 refine tkC (fun K hK => ?_) (AllReadyH.nil)
 go_simp
 (go_at_call 14; go_split_ands; (with_reducible refine (HF1.out _ (by with_reducible assumption)).mono ?_); rintro e w1 ⟨rfl, hb1⟩)
 go_wp2_with fail
 have hB1 := hB0.trans (hb1.mono hB0.size)
 refine hK.out _ _ (HX.out _ hB1) (fun hHeld => ?_)
 clear hK K
 try simp only [Act.put, List.setIfInBounds_toArray, List.set_cons_zero, List.set_cons_succ]
 refine tkD 4 ?_
 simp only [Act.put, List.setIfInBounds_toArray, List.set_cons_zero, List.set_cons_succ]
 refine tkD 5 ?_
 simp only [Act.put, List.setIfInBounds_toArray, List.set_cons_zero, List.set_cons_succ]
 refine tkD 6 ?_
 simp only [Act.put, List.setIfInBounds_toArray, List.set_cons_zero, List.set_cons_succ]
 refine tkD 7 ?_
 simp only [Act.put, List.setIfInBounds_toArray, List.set_cons_zero, List.set_cons_succ]
 refine wpAnyH_ready (rs := [8]) (by kernel_rfl) (by simp) ?_
 refine tkC (fun K hK => ?_) (AllReadyH.nil)
 go_simp
 (go_at_call 14; go_split_ands; (with_reducible refine (HF2.out _ (by with_reducible assumption)).mono ?_); rintro e w2 ⟨rfl, hb2⟩)
 go_wp2_with fail
 have hB2 := hB1.trans (hb2.mono hB1.size)
 refine hK.out _ _ (HX.out _ hB2) (fun hHeld => ?_)
 clear hK K
 try simp only [Act.put, List.setIfInBounds_toArray, List.set_cons_zero, List.set_cons_succ]
 refine tkD 9 ?_
 simp only [Act.put, List.setIfInBounds_toArray, List.set_cons_zero, List.set_cons_succ]
 refine tkD 10 ?_
 simp only [Act.put, List.setIfInBounds_toArray, List.set_cons_zero, List.set_cons_succ]
 refine tkD 11 ?_
 simp only [Act.put, List.setIfInBounds_toArray, List.set_cons_zero, List.set_cons_succ]
 refine tkD 12 ?_
 simp only [Act.put, List.setIfInBounds_toArray, List.set_cons_zero, List.set_cons_succ]
 refine tkD 13 ?_
 simp only [Act.put, List.setIfInBounds_toArray, List.set_cons_zero, List.set_cons_succ]
 refine tkD 14 ?_
 simp only [Act.put, List.setIfInBounds_toArray, List.set_cons_zero, List.set_cons_succ]
 refine wpAnyH_ready (rs := [15]) (by kernel_rfl) (by simp) ?_
 refine tkC (fun K hK => ?_) (AllReadyH.nil)
 go_simp
 (go_at_call 11; go_split_ands; (with_reducible refine (lwhole_any m.to _).mono ?_); rintro e w3 ⟨rfl, hb3⟩)
 go_wp2_with fail
 have hB3 := hB2.trans (hb3.mono hB2.size)
 refine hK.out _ _ (HX.out _ hB3) (fun hHeld => ?_)
 clear hK K
 try simp only [Act.put, List.setIfInBounds_toArray, List.set_cons_zero, List.set_cons_succ]
 refine wpAnyH_ready (rs := [16]) (by kernel_rfl) (by simp) ?_
 refine tkC (fun K hK => ?_) (AllReadyH.nil)
 go_simp
 (go_at_call 14; go_split_ands; (with_reducible refine (HF3.out _ (by with_reducible assumption)).mono ?_); rintro e w4 ⟨rfl, hb4⟩)
 go_wp2_with fail
 have hB4 := hB3.trans (hb4.mono hB3.size)
 refine hK.out _ _ (HX.out _ hB4) (fun hHeld => ?_)
 clear hK K
 try simp only [Act.put, List.setIfInBounds_toArray, List.set_cons_zero, List.set_cons_succ]
 refine tkD 17 ?_
 simp only [Act.put, List.setIfInBounds_toArray, List.set_cons_zero, List.set_cons_succ]
 refine tkD 18 ?_
 simp only [Act.put, List.setIfInBounds_toArray, List.set_cons_zero, List.set_cons_succ]
 refine tkD 19 ?_
 simp only [Act.put, List.setIfInBounds_toArray, List.set_cons_zero, List.set_cons_succ]
 refine tkD 20 ?_
 simp only [Act.put, List.setIfInBounds_toArray, List.set_cons_zero, List.set_cons_succ]
 refine tkD 21 ?_
 simp only [Act.put, List.setIfInBounds_toArray, List.set_cons_zero, List.set_cons_succ]
 refine tkD 22 ?_
 simp only [Act.put, List.setIfInBounds_toArray, List.set_cons_zero, List.set_cons_succ]
 refine tkD 23 ?_
 simp only [Act.put, List.setIfInBounds_toArray, List.set_cons_zero, List.set_cons_succ]
 refine tkD 24 ?_
 simp only [Act.put, List.setIfInBounds_toArray, List.set_cons_zero, List.set_cons_succ]
 refine tkD 25 ?_
 simp only [Act.put, List.setIfInBounds_toArray, List.set_cons_zero, List.set_cons_succ]
 refine tkE 26 ?_
 simp only [Act.put, List.setIfInBounds_toArray, List.set_cons_zero, List.set_cons_succ]
 refine tkE 27 ?_
 simp only [Act.put, List.setIfInBounds_toArray, List.set_cons_zero, List.set_cons_succ]
 refine tkE 28 ?_
 simp only [Act.put, List.setIfInBounds_toArray, List.set_cons_zero, List.set_cons_succ]
 refine tkE 29 ?_
 simp only [Act.put, List.setIfInBounds_toArray, List.set_cons_zero, List.set_cons_succ]
 refine tkE 30 ?_
 simp only [Act.put, List.setIfInBounds_toArray, List.set_cons_zero, List.set_cons_succ]
 refine tkD 31 ?_
 simp only [Act.put, List.setIfInBounds_toArray, List.set_cons_zero, List.set_cons_succ]
 refine tkD 32 ?_
 simp only [Act.put, List.setIfInBounds_toArray, List.set_cons_zero, List.set_cons_succ]
 refine tkD 33 ?_
 simp only [Act.put, List.setIfInBounds_toArray, List.set_cons_zero, List.set_cons_succ]
 refine wpAnyH_done (by kernel_rfl) ?_ _
 have hB := hB4
 exact hK _ _ _ _ _ _ _ _ _ _ _ _ _ _ _ _ _ _ _ _ _ _ _ _ _ _ _ _ _ _ _ _ _ _ _ ⟨rfl, hB⟩
theorem swap_keep {n : Nat} {w W : World} {Bs Bt : Nat} {s t : Int × Int} (hn : n = w.heap.size) (hB : Below n w W) (fs : FI W Bs s.1 s.2) (ft : FI W Bt t.1 t.2) (ns : n ≤ Bs) (nt : n ≤ Bt) (ne : Bs ≠ Bt) :
  Below n w ((((W.setCell ⟨Bs, 0, none⟩ (.int .i64 t.1)).setCell ⟨Bs, 1, none⟩ (.int .i64 t.2)).setCell ⟨Bt, 0, none⟩ (.int .i64 s.1)).setCell ⟨Bt, 1, none⟩ (.int .i64 s.2)) ∧ FI ((((W.setCell ⟨Bs, 0, none⟩ (.int .i64 t.1)).setCell ⟨Bs, 1, none⟩ (.int .i64 t.2)).setCell ⟨Bt, 0, none⟩ (.int .i64 s.1)).setCell ⟨Bt, 1, none⟩ (.int .i64 s.2)) Bs t.1 t.2 ∧ FI ((((W.setCell ⟨Bs, 0, none⟩ (.int .i64 t.1)).setCell ⟨Bs, 1, none⟩ (.int .i64 t.2)).setCell ⟨Bt, 0, none⟩ (.int .i64 s.1)).setCell ⟨Bt, 1, none⟩ (.int .i64 s.2)) Bt s.1 s.2 := by
 subst hn
 have f1 := fs.set t.1 t.2
 have g1 := ft.other ne.symm (.int .i64 t.1) (.int .i64 t.2)
 have b1 := below_s ⟨Bs, 1, none⟩ (.int .i64 t.2) (below_s ⟨Bs, 0, none⟩ (.int .i64 t.1) hB ns) ns
 generalize (W.setCell ⟨Bs, 0, none⟩ (.int .i64 t.1)).setCell ⟨Bs, 1, none⟩ (.int .i64 t.2) = W1 at *
 exact ⟨below_s _ _ (below_s _ _ b1 nt) nt, f1.other ne (.int .i64 s.1) (.int .i64 s.2), g1.set s.1 s.2⟩
theorem HouseAt.other {w : World} {b B : Nat} {h : HouseR} (x : HouseAt w b h) (ne : b ≠ B) (u v : Value) : HouseAt ((w.setCell ⟨B, 0, none⟩ u).setCell ⟨B, 1, none⟩ v) b h :=
 ⟨(two_other ne _ _ _).trans x.1, (two_other ne _ _ _).trans x.2.1, (two_other ne _ _ _).trans x.2.2.1, (two_other ne _ _ _).trans x.2.2.2⟩
theorem MvAt.other {w : World} {b B : Nat} {m : Mv} (x : MvAt w b m) (ne : b ≠ B) (u v : Value) : MvAt ((w.setCell ⟨B, 0, none⟩ u).setCell ⟨B, 1, none⟩ v) b m :=
 ⟨(two_other ne _ _ _).trans x.1, (two_other ne _ _ _).trans x.2.1, (two_other ne _ _ _).trans x.2.2.1, (two_other ne _ _ _).trans x.2.2.2.1, (two_other ne _ _ _).trans x.2.2.2.2⟩
set_option maxRecDepth 100000 in
set_option maxHeartbeats 32000000 in
theorem lawstops_law (h : HouseR) (f : Int) (m : Mv) (s u : Int × Int) (w : World) (hh : HouseIn0 w h) :
  Calls Try.prog 4 #[.agg #[.string h.name, .int .i64 h.height, .slice h.sa h.sets.length h.sc, .slice h.ra h.roofs.length h.rc], .int .i64 f, .agg #[.string m.name, .int .i64 m.to, .int .i64 m.spd, .int .i64 m.rise, .int .i64 m.fall], .agg #[.int .i64 s.1, .int .i64 s.2], .agg #[.int .i64 u.1, .int .i64 u.2]] w fun e w' => e = .returned (.bool true) ∧ Below w.heap.size w w' := by
 obtain ⟨b, hb⟩ : ∃ b, fewB h m = b := ⟨_, rfl⟩
 have HFE : Hid (∀ w : World, HouseIn0 w h → Calls Try.prog 8 #[.agg #[.string h.name, .int .i64 h.height, .slice h.sa h.sets.length h.sc, .slice h.ra h.roofs.length h.rc], .agg #[.string m.name, .int .i64 m.to, .int .i64 m.spd, .int .i64 m.rise, .int .i64 m.fall]] w fun e w' => e = .returned (.bool b) ∧ Below w.heap.size w w') := Lib.hid fun w hh => by
  have := few_any h m w hh
  rwa [hb] at this
 cases b
 ·clear hb
  go_enter Try.func4, Try.ntmps4
  go_upto_region 1 with (fail)
  have hat1 := ((((HouseAt.new w h 25).carry (below_new (w.alloc (.cells #[.string h.name, .int .i64 h.height, .slice h.sa h.sets.length h.sc, .slice h.ra h.roofs.length h.rc] 25)) (.cells #[.string m.name, .int .i64 m.to, .int .i64 m.spd, .int .i64 m.rise, .int .i64 m.fall] 27))).carry (below_new ((w.alloc (.cells #[.string h.name, .int .i64 h.height, .slice h.sa h.sets.length h.sc, .slice h.ra h.roofs.length h.rc] 25)).alloc (.cells #[.string m.name, .int .i64 m.to, .int .i64 m.spd, .int .i64 m.rise, .int .i64 m.fall] 27)) (.cells #[.int .i64 s.1, .int .i64 s.2] 29))).carry (below_new (((w.alloc (.cells #[.string h.name, .int .i64 h.height, .slice h.sa h.sets.length h.sc, .slice h.ra h.roofs.length h.rc] 25)).alloc (.cells #[.string m.name, .int .i64 m.to, .int .i64 m.spd, .int .i64 m.rise, .int .i64 m.fall] 27)).alloc (.cells #[.int .i64 s.1, .int .i64 s.2] 29)) (.cells #[.int .i64 u.1, .int .i64 u.2] 29)))
  have mat1 := (((MvAt.new (w.alloc (.cells #[.string h.name, .int .i64 h.height, .slice h.sa h.sets.length h.sc, .slice h.ra h.roofs.length h.rc] 25)) m 27).carry (below_new ((w.alloc (.cells #[.string h.name, .int .i64 h.height, .slice h.sa h.sets.length h.sc, .slice h.ra h.roofs.length h.rc] 25)).alloc (.cells #[.string m.name, .int .i64 m.to, .int .i64 m.spd, .int .i64 m.rise, .int .i64 m.fall] 27)) (.cells #[.int .i64 s.1, .int .i64 s.2] 29))).carry (below_new (((w.alloc (.cells #[.string h.name, .int .i64 h.height, .slice h.sa h.sets.length h.sc, .slice h.ra h.roofs.length h.rc] 25)).alloc (.cells #[.string m.name, .int .i64 m.to, .int .i64 m.spd, .int .i64 m.rise, .int .i64 m.fall] 27)).alloc (.cells #[.int .i64 s.1, .int .i64 s.2] 29)) (.cells #[.int .i64 u.1, .int .i64 u.2] 29)))
  have fat0 := ((FI.put ((w.alloc (.cells #[.string h.name, .int .i64 h.height, .slice h.sa h.sets.length h.sc, .slice h.ra h.roofs.length h.rc] 25)).alloc (.cells #[.string m.name, .int .i64 m.to, .int .i64 m.spd, .int .i64 m.rise, .int .i64 m.fall] 27)) s.1 s.2 29).carry (below_new (((w.alloc (.cells #[.string h.name, .int .i64 h.height, .slice h.sa h.sets.length h.sc, .slice h.ra h.roofs.length h.rc] 25)).alloc (.cells #[.string m.name, .int .i64 m.to, .int .i64 m.spd, .int .i64 m.rise, .int .i64 m.fall] 27)).alloc (.cells #[.int .i64 s.1, .int .i64 s.2] 29)) (.cells #[.int .i64 u.1, .int .i64 u.2] 29)))
  have fat1 := (FI.put (((w.alloc (.cells #[.string h.name, .int .i64 h.height, .slice h.sa h.sets.length h.sc, .slice h.ra h.roofs.length h.rc] 25)).alloc (.cells #[.string m.name, .int .i64 m.to, .int .i64 m.spd, .int .i64 m.rise, .int .i64 m.fall] 27)).alloc (.cells #[.int .i64 s.1, .int .i64 s.2] 29)) u.1 u.2 29)
  have hB := ((((below_new w (.cells #[.string h.name, .int .i64 h.height, .slice h.sa h.sets.length h.sc, .slice h.ra h.roofs.length h.rc] 25)).alloc (by simp) (.cells #[.string m.name, .int .i64 m.to, .int .i64 m.spd, .int .i64 m.rise, .int .i64 m.fall] 27)).alloc (by simp <;> omega) (.cells #[.int .i64 s.1, .int .i64 s.2] 29)).alloc (by simp <;> omega) (.cells #[.int .i64 u.1, .int .i64 u.2] 29))
  have HH := Lib.hid (hh.grow hB)
  have hm1 : (w.alloc (.cells #[.string h.name, .int .i64 h.height, .slice h.sa h.sets.length h.sc, .slice h.ra h.roofs.length h.rc] 25)).heap.size = w.heap.size + 1 := by simp
  rw [hm1] at mat1
  have hm2 : ((w.alloc (.cells #[.string h.name, .int .i64 h.height, .slice h.sa h.sets.length h.sc, .slice h.ra h.roofs.length h.rc] 25)).alloc (.cells #[.string m.name, .int .i64 m.to, .int .i64 m.spd, .int .i64 m.rise, .int .i64 m.fall] 27)).heap.size = w.heap.size + 1 + 1 := by simp
  rw [hm2] at fat0
  have hm3 : (((w.alloc (.cells #[.string h.name, .int .i64 h.height, .slice h.sa h.sets.length h.sc, .slice h.ra h.roofs.length h.rc] 25)).alloc (.cells #[.string m.name, .int .i64 m.to, .int .i64 m.spd, .int .i64 m.rise, .int .i64 m.fall] 27)).alloc (.cells #[.int .i64 s.1, .int .i64 s.2] 29)).heap.size = w.heap.size + 1 + 1 + 1 := by simp
  rw [hm3] at fat1
  clear hm1 hm2 hm3
  generalize ((((w.alloc (.cells #[.string h.name, .int .i64 h.height, .slice h.sa h.sets.length h.sc, .slice h.ra h.roofs.length h.rc] 25)).alloc (.cells #[.string m.name, .int .i64 m.to, .int .i64 m.spd, .int .i64 m.rise, .int .i64 m.fall] 27)).alloc (.cells #[.int .i64 s.1, .int .i64 s.2] 29)).alloc (.cells #[.int .i64 u.1, .int .i64 u.2] 29)) = W0 at *
  have HAT := Lib.hid hat1
  have MAT := Lib.hid mat1
  have SAT := Lib.hid fat0
  have UAT := Lib.hid fat1
  clear hat1 mat1 fat0 fat1
  go_upto_region 3 with (go_at_call 7; (with_reducible refine (awake_any _).mono ?_); rintro e w1 ⟨rfl, hbs⟩)
  replace HAT := Lib.hid (HAT.out.carry hbs)
  replace MAT := Lib.hid (MAT.out.carry hbs)
  replace SAT := Lib.hid (SAT.out.carry hbs)
  replace UAT := Lib.hid (UAT.out.carry hbs)
  replace HH := Lib.hid (HH.out.grow hbs)
  replace hB := hB.trans (hbs.mono hB.size)
  clear hbs
  obtain ⟨k0, k1, k2, k3⟩ := HAT.out
  obtain ⟨m0, m1, m2, m3, m4⟩ := MAT.out
  go_wp2_with (go_at_call 8; (with_reducible refine (HFE.out _ HH.out).mono ?_); rintro e w2 ⟨rfl, hbs⟩)
  go_ret
  exact ⟨rfl, hB.trans (hbs.mono hB.size)⟩
 ·have hh1 := few_in hh hb
  clear hb hh
  obtain ⟨t, ht⟩ := top_some35 h f m
  have HGO : Hid (mgE h f m = 0 → Going h f m t) := Lib.hid fun e => going e ht
  obtain ⟨E, hE⟩ : ∃ E, mgE h f m = E := ⟨_, rfl⟩
  obtain ⟨P, hP⟩ : ∃ P, endP h f m t = P := ⟨_, rfl⟩
  have HE1 : Hid (∀ w : World, HouseIn w h → Calls Try.prog 9 #[.agg #[.string h.name, .int .i64 h.height, .slice h.sa h.sets.length h.sc, .slice h.ra h.roofs.length h.rc], .int .i64 f, .agg #[.string m.name, .int .i64 m.to, .int .i64 m.spd, .int .i64 m.rise, .int .i64 m.fall]] w fun e w' => e = .returned (.tuple #[.agg #[.int .i64 P.1, .int .i64 P.2], .int .i64 E]) ∧ Below w.heap.size w w') := Lib.hid fun w hh => by
   have := mend_any h f m t ht w hh
   rwa [hE, hP] at this
  have HP := Lib.hid hP
  have HE := Lib.hid hE
  have HAX := Lib.hid (fun (x : Int × Int) => mat_any h f m x t ht)
  have HHX := Lib.hid (fun (x : Int × Int) => mhalt_any h f m x t ht)
  have r2 : (m.to == m.to) = true := by simp
  clear hE hP ht
  obtain ⟨C, hC⟩ : ∃ C, cmpG s u = C := ⟨_, rfl⟩
  have HCM : Hid (∀ w : World, Calls Try.prog 12 #[.agg #[.int .i64 s.1, .int .i64 s.2], .agg #[.int .i64 u.1, .int .i64 u.2]] w fun e w' => e = .returned (.tuple #[.int .i64 C.1, .int .i64 C.2]) ∧ Below w.heap.size w w') := Lib.hid fun w => by
   have := cmp_gen s u w
   rwa [hC] at this
  have HCC := Lib.hid hC
  clear hC
  go_enter Try.func4, Try.ntmps4
  go_upto_region 1 with (fail)
  have hat1 := ((((HouseAt.new w h 25).carry (below_new (w.alloc (.cells #[.string h.name, .int .i64 h.height, .slice h.sa h.sets.length h.sc, .slice h.ra h.roofs.length h.rc] 25)) (.cells #[.string m.name, .int .i64 m.to, .int .i64 m.spd, .int .i64 m.rise, .int .i64 m.fall] 27))).carry (below_new ((w.alloc (.cells #[.string h.name, .int .i64 h.height, .slice h.sa h.sets.length h.sc, .slice h.ra h.roofs.length h.rc] 25)).alloc (.cells #[.string m.name, .int .i64 m.to, .int .i64 m.spd, .int .i64 m.rise, .int .i64 m.fall] 27)) (.cells #[.int .i64 s.1, .int .i64 s.2] 29))).carry (below_new (((w.alloc (.cells #[.string h.name, .int .i64 h.height, .slice h.sa h.sets.length h.sc, .slice h.ra h.roofs.length h.rc] 25)).alloc (.cells #[.string m.name, .int .i64 m.to, .int .i64 m.spd, .int .i64 m.rise, .int .i64 m.fall] 27)).alloc (.cells #[.int .i64 s.1, .int .i64 s.2] 29)) (.cells #[.int .i64 u.1, .int .i64 u.2] 29)))
  have mat1 := (((MvAt.new (w.alloc (.cells #[.string h.name, .int .i64 h.height, .slice h.sa h.sets.length h.sc, .slice h.ra h.roofs.length h.rc] 25)) m 27).carry (below_new ((w.alloc (.cells #[.string h.name, .int .i64 h.height, .slice h.sa h.sets.length h.sc, .slice h.ra h.roofs.length h.rc] 25)).alloc (.cells #[.string m.name, .int .i64 m.to, .int .i64 m.spd, .int .i64 m.rise, .int .i64 m.fall] 27)) (.cells #[.int .i64 s.1, .int .i64 s.2] 29))).carry (below_new (((w.alloc (.cells #[.string h.name, .int .i64 h.height, .slice h.sa h.sets.length h.sc, .slice h.ra h.roofs.length h.rc] 25)).alloc (.cells #[.string m.name, .int .i64 m.to, .int .i64 m.spd, .int .i64 m.rise, .int .i64 m.fall] 27)).alloc (.cells #[.int .i64 s.1, .int .i64 s.2] 29)) (.cells #[.int .i64 u.1, .int .i64 u.2] 29)))
  have fat0 := ((FI.put ((w.alloc (.cells #[.string h.name, .int .i64 h.height, .slice h.sa h.sets.length h.sc, .slice h.ra h.roofs.length h.rc] 25)).alloc (.cells #[.string m.name, .int .i64 m.to, .int .i64 m.spd, .int .i64 m.rise, .int .i64 m.fall] 27)) s.1 s.2 29).carry (below_new (((w.alloc (.cells #[.string h.name, .int .i64 h.height, .slice h.sa h.sets.length h.sc, .slice h.ra h.roofs.length h.rc] 25)).alloc (.cells #[.string m.name, .int .i64 m.to, .int .i64 m.spd, .int .i64 m.rise, .int .i64 m.fall] 27)).alloc (.cells #[.int .i64 s.1, .int .i64 s.2] 29)) (.cells #[.int .i64 u.1, .int .i64 u.2] 29)))
  have fat1 := (FI.put (((w.alloc (.cells #[.string h.name, .int .i64 h.height, .slice h.sa h.sets.length h.sc, .slice h.ra h.roofs.length h.rc] 25)).alloc (.cells #[.string m.name, .int .i64 m.to, .int .i64 m.spd, .int .i64 m.rise, .int .i64 m.fall] 27)).alloc (.cells #[.int .i64 s.1, .int .i64 s.2] 29)) u.1 u.2 29)
  have hB := ((((below_new w (.cells #[.string h.name, .int .i64 h.height, .slice h.sa h.sets.length h.sc, .slice h.ra h.roofs.length h.rc] 25)).alloc (by simp) (.cells #[.string m.name, .int .i64 m.to, .int .i64 m.spd, .int .i64 m.rise, .int .i64 m.fall] 27)).alloc (by simp <;> omega) (.cells #[.int .i64 s.1, .int .i64 s.2] 29)).alloc (by simp <;> omega) (.cells #[.int .i64 u.1, .int .i64 u.2] 29))
  have HH := Lib.hid (hh1.grow hB)
  have hm1 : (w.alloc (.cells #[.string h.name, .int .i64 h.height, .slice h.sa h.sets.length h.sc, .slice h.ra h.roofs.length h.rc] 25)).heap.size = w.heap.size + 1 := by simp
  rw [hm1] at mat1
  have hm2 : ((w.alloc (.cells #[.string h.name, .int .i64 h.height, .slice h.sa h.sets.length h.sc, .slice h.ra h.roofs.length h.rc] 25)).alloc (.cells #[.string m.name, .int .i64 m.to, .int .i64 m.spd, .int .i64 m.rise, .int .i64 m.fall] 27)).heap.size = w.heap.size + 1 + 1 := by simp
  rw [hm2] at fat0
  have hm3 : (((w.alloc (.cells #[.string h.name, .int .i64 h.height, .slice h.sa h.sets.length h.sc, .slice h.ra h.roofs.length h.rc] 25)).alloc (.cells #[.string m.name, .int .i64 m.to, .int .i64 m.spd, .int .i64 m.rise, .int .i64 m.fall] 27)).alloc (.cells #[.int .i64 s.1, .int .i64 s.2] 29)).heap.size = w.heap.size + 1 + 1 + 1 := by simp
  rw [hm3] at fat1
  clear hm1 hm2 hm3
  generalize ((((w.alloc (.cells #[.string h.name, .int .i64 h.height, .slice h.sa h.sets.length h.sc, .slice h.ra h.roofs.length h.rc] 25)).alloc (.cells #[.string m.name, .int .i64 m.to, .int .i64 m.spd, .int .i64 m.rise, .int .i64 m.fall] 27)).alloc (.cells #[.int .i64 s.1, .int .i64 s.2] 29)).alloc (.cells #[.int .i64 u.1, .int .i64 u.2] 29)) = W0 at *
  have HAT := Lib.hid hat1
  have MAT := Lib.hid mat1
  have SAT := Lib.hid fat0
  have UAT := Lib.hid fat1
  clear hat1 mat1 fat0 fat1
  go_upto_region 3 with (go_at_call 7; (with_reducible refine (awake_any _).mono ?_); rintro e w1 ⟨rfl, hbs⟩)
  replace HAT := Lib.hid (HAT.out.carry hbs)
  replace MAT := Lib.hid (MAT.out.carry hbs)
  replace SAT := Lib.hid (SAT.out.carry hbs)
  replace UAT := Lib.hid (UAT.out.carry hbs)
  replace HH := Lib.hid (HH.out.grow hbs)
  replace hB := hB.trans (hbs.mono hB.size)
  clear hbs
  obtain ⟨k0, k1, k2, k3⟩ := HAT.out
  obtain ⟨m0, m1, m2, m3, m4⟩ := MAT.out
  go_upto_region 5 with (go_at_call 8; (with_reducible refine (HFE.out _ HH.out.toHouseIn0).mono ?_); rintro e w2 ⟨rfl, hbs⟩)
  clear k0 k1 k2 k3 m0 m1 m2 m3 m4
  replace HAT := Lib.hid (HAT.out.carry hbs)
  replace MAT := Lib.hid (MAT.out.carry hbs)
  replace SAT := Lib.hid (SAT.out.carry hbs)
  replace UAT := Lib.hid (UAT.out.carry hbs)
  replace HH := Lib.hid (HH.out.grow hbs)
  replace hB := hB.trans (hbs.mono hB.size)
  clear hbs
  obtain ⟨s0, s1, _, _, _⟩ := SAT.out
  obtain ⟨t0, t1, _, _, _⟩ := UAT.out
  go_upto_region 6 with (go_at_call 12; (with_reducible refine (HCM.out _).mono ?_); rintro e w6 ⟨rfl, hbs⟩)
  clear s0 s1 t0 t1
  replace HAT := Lib.hid (HAT.out.carry hbs)
  replace MAT := Lib.hid (MAT.out.carry hbs)
  replace SAT := Lib.hid (SAT.out.carry hbs)
  replace UAT := Lib.hid (UAT.out.carry hbs)
  replace HH := Lib.hid (HH.out.grow hbs)
  replace hB := hB.trans (hbs.mono hB.size)
  clear hbs
  by_cases ce : C.2 = 0
  ·obtain ⟨vs, vu, hc⟩ := cmpG_valid (by rw [HCC.out]; exact ce)
   rw [HCC.out] at hc
   simp only [hc]
   clear hc ce HCM HCC
   obtain ⟨c, hc⟩ : ∃ c, cmpP (s.1 * u.2) (u.1 * s.2) = c := ⟨_, rfl⟩
   simp only [hc]
   by_cases cs : 0 < c
   ·have p2 := decide_eq_true cs
    have vS := vu
    have vT := vs
    have hle : u.1 * s.2 ≤ s.1 * u.2 := cmp_nle (by omega)
    clear vs vu hc cs
    obtain ⟨s0, s1, _, _, _⟩ := SAT.out
    obtain ⟨t0, t1, _, _, _⟩ := UAT.out
    have sl : w.heap.size + 1 + 1 < w6.heap.size := World.block_lt_of_cell? _ _ s0
    have ul : w.heap.size + 1 + 1 + 1 < w6.heap.size := World.block_lt_of_cell? _ _ t0
    go_upto_region 10 with (fail)
    clear s0 s1 t0 t1
    obtain ⟨hB7, FS7, FU7⟩ := swap_keep (n := w.heap.size) rfl hB SAT.out UAT.out (by omega) (by omega) (by omega)
    have HA7 := (HAT.out.other (B := w.heap.size + 1 + 1) (by omega) (.int .i64 u.1) (.int .i64 u.2)).other (B := w.heap.size + 1 + 1 + 1) (by omega) (.int .i64 s.1) (.int .i64 s.2)
    have HM7 := (MAT.out.other (B := w.heap.size + 1 + 1) (by omega) (.int .i64 u.1) (.int .i64 u.2)).other (B := w.heap.size + 1 + 1 + 1) (by omega) (.int .i64 s.1) (.int .i64 s.2)
    clear hB SAT UAT HAT MAT HH sl ul
    generalize (((w6.setCell ⟨w.heap.size + 1 + 1, 0, none⟩ (.int .i64 u.1)).setCell ⟨w.heap.size + 1 + 1, 1, none⟩ (.int .i64 u.2)).setCell ⟨w.heap.size + 1 + 1 + 1, 0, none⟩ (.int .i64 s.1)).setCell ⟨w.heap.size + 1 + 1 + 1, 1, none⟩ (.int .i64 s.2) = V6 at *
    have hB := hB7
    have SAT := Lib.hid FS7
    have UAT := Lib.hid FU7
    have HAT := Lib.hid HA7
    have MAT := Lib.hid HM7
    have HH := Lib.hid (hh1.grow hB7)
    clear hB7 FS7 FU7 HA7 HM7
    obtain ⟨A, hA⟩ : ∃ X, haltP h f m u t = X := ⟨_, rfl⟩
    have HA : Hid (∀ w : World, HouseIn w h → Calls Try.prog 13 #[.agg #[.string h.name, .int .i64 h.height, .slice h.sa h.sets.length h.sc, .slice h.ra h.roofs.length h.rc], .int .i64 f, .agg #[.string m.name, .int .i64 m.to, .int .i64 m.spd, .int .i64 m.rise, .int .i64 m.fall], .agg #[.int .i64 u.1, .int .i64 u.2]] w fun e w' => e = .returned (.tuple #[.agg #[.int .i64 A.1, .int .i64 A.2.1], .int .i64 A.2.2]) ∧ Below w.heap.size w w') := Lib.hid fun w hh => by
     have := HHX.out u w hh
     rwa [hA] at this
    obtain ⟨B, hB9⟩ : ∃ X, haltP h f m s t = X := ⟨_, rfl⟩
    have HBB : Hid (∀ w : World, HouseIn w h → Calls Try.prog 13 #[.agg #[.string h.name, .int .i64 h.height, .slice h.sa h.sets.length h.sc, .slice h.ra h.roofs.length h.rc], .int .i64 f, .agg #[.string m.name, .int .i64 m.to, .int .i64 m.spd, .int .i64 m.rise, .int .i64 m.fall], .agg #[.int .i64 s.1, .int .i64 s.2]] w fun e w' => e = .returned (.tuple #[.agg #[.int .i64 B.1, .int .i64 B.2.1], .int .i64 B.2.2]) ∧ Below w.heap.size w w') := Lib.hid fun w hh => by
     have := HHX.out s w hh
     rwa [hB9] at this
    obtain ⟨Q, hQ⟩ : ∃ X, matP h f m u t = X := ⟨_, rfl⟩
    have HQ : Hid (∀ w : World, HouseIn w h → Calls Try.prog 10 #[.agg #[.string h.name, .int .i64 h.height, .slice h.sa h.sets.length h.sc, .slice h.ra h.roofs.length h.rc], .int .i64 f, .agg #[.string m.name, .int .i64 m.to, .int .i64 m.spd, .int .i64 m.rise, .int .i64 m.fall], .agg #[.int .i64 u.1, .int .i64 u.2]] w fun e w' => e = .returned (.tuple #[.agg #[.int .i64 Q.1, .int .i64 Q.2.1], .int .i64 Q.2.2]) ∧ Below w.heap.size w w') := Lib.hid fun w hh => by
     have := HAX.out u w hh
     rwa [hQ] at this
    have hpair := fun (e : mgE h f m = 0) (ha : (haltP h f m u t).2.2 = 0) => stops_pair e (HGO.out e) vS vT hle ha
    have hze : A.2.2 = 0 → mgE h f m = 0 := fun z => by
     rw [← hA] at z
     by_cases c : mtE h f m u = 0
     ·exact (mt_ok c).1
     ·unfold haltP at z; rw [if_neg c] at z; exact absurd z c
    rw [hA, hB9, hQ] at hpair
    clear hA hB9 hQ hle vS
    have HPR := Lib.hid hpair
    have HZE := Lib.hid hze
    have HVT := Lib.hid vT
    clear hpair hze vT
    obtain ⟨k0, k1, k2, k3⟩ := HAT.out
    obtain ⟨m0, m1, m2, m3, m4⟩ := MAT.out
    obtain ⟨s0, s1, _, _, _⟩ := SAT.out
    go_upto_region 11 with (go_at_call 13; (with_reducible refine (HA.out _ HH.out).mono ?_); rintro e w7 ⟨rfl, hbs⟩)
    clear k0 k1 k2 k3 m0 m1 m2 m3 m4 s0 s1
    replace HAT := Lib.hid (HAT.out.carry hbs)
    replace MAT := Lib.hid (MAT.out.carry hbs)
    replace SAT := Lib.hid (SAT.out.carry hbs)
    replace UAT := Lib.hid (UAT.out.carry hbs)
    replace HH := Lib.hid (HH.out.grow hbs)
    replace hB := hB.trans (hbs.mono hB.size)
    clear hbs
    have hbn := below_new w7 (.cells #[.int .i64 (A.1), .int .i64 (A.2.1)] 29)
    have hF := FI.put w7 (A.1) (A.2.1) 29
    replace HAT := Lib.hid (HAT.out.carry hbn)
    replace MAT := Lib.hid (MAT.out.carry hbn)
    replace SAT := Lib.hid (SAT.out.carry hbn)
    replace UAT := Lib.hid (UAT.out.carry hbn)
    replace HH := Lib.hid (HH.out.grow hbn)
    replace hB := hB.trans (hbn.mono hB.size)
    clear hbn
    obtain ⟨Ba, hBq⟩ : ∃ b, w7.heap.size = b := ⟨_, rfl⟩
    simp only [hBq] at hF ⊢
    have FA := Lib.hid hF
    clear hF
    generalize w7.alloc (.cells #[.int .i64 (A.1), .int .i64 (A.2.1)] 29) = W7 at *
    clear hBq
    obtain ⟨k0, k1, k2, k3⟩ := HAT.out
    obtain ⟨m0, m1, m2, m3, m4⟩ := MAT.out
    obtain ⟨t0, t1, _, _, _⟩ := UAT.out
    go_upto_region 12 with (go_at_call 13; (with_reducible refine (HBB.out _ HH.out).mono ?_); rintro e w8 ⟨rfl, hbs⟩)
    clear k0 k1 k2 k3 m0 m1 m2 m3 m4 t0 t1
    replace HAT := Lib.hid (HAT.out.carry hbs)
    replace MAT := Lib.hid (MAT.out.carry hbs)
    replace SAT := Lib.hid (SAT.out.carry hbs)
    replace UAT := Lib.hid (UAT.out.carry hbs)
    replace HH := Lib.hid (HH.out.grow hbs)
    replace FA := Lib.hid (FA.out.carry hbs)
    replace hB := hB.trans (hbs.mono hB.size)
    clear hbs
    have hbn := below_new w8 (.cells #[.int .i64 (B.1), .int .i64 (B.2.1)] 29)
    have hF := FI.put w8 (B.1) (B.2.1) 29
    replace HAT := Lib.hid (HAT.out.carry hbn)
    replace MAT := Lib.hid (MAT.out.carry hbn)
    replace SAT := Lib.hid (SAT.out.carry hbn)
    replace UAT := Lib.hid (UAT.out.carry hbn)
    replace HH := Lib.hid (HH.out.grow hbn)
    replace FA := Lib.hid (FA.out.carry hbn)
    replace hB := hB.trans (hbn.mono hB.size)
    clear hbn
    obtain ⟨Bb, hBq⟩ : ∃ b, w8.heap.size = b := ⟨_, rfl⟩
    simp only [hBq] at hF ⊢
    have FB := Lib.hid hF
    clear hF
    generalize w8.alloc (.cells #[.int .i64 (B.1), .int .i64 (B.2.1)] 29) = W8 at *
    clear hBq
    obtain ⟨k0, k1, k2, k3⟩ := HAT.out
    obtain ⟨m0, m1, m2, m3, m4⟩ := MAT.out
    obtain ⟨s0, s1, _, _, _⟩ := SAT.out
    go_upto_region 13 with (go_at_call 10; (with_reducible refine (HQ.out _ HH.out).mono ?_); rintro e w9 ⟨rfl, hbs⟩)
    clear k0 k1 k2 k3 m0 m1 m2 m3 m4 s0 s1
    replace HAT := Lib.hid (HAT.out.carry hbs)
    replace MAT := Lib.hid (MAT.out.carry hbs)
    replace SAT := Lib.hid (SAT.out.carry hbs)
    replace UAT := Lib.hid (UAT.out.carry hbs)
    replace HH := Lib.hid (HH.out.grow hbs)
    replace FA := Lib.hid (FA.out.carry hbs)
    replace FB := Lib.hid (FB.out.carry hbs)
    replace hB := hB.trans (hbs.mono hB.size)
    clear hbs
    have hbn := below_new w9 (.cells #[.int .i64 (Q.1), .int .i64 (Q.2.1)] 29)
    have hF := FI.put w9 (Q.1) (Q.2.1) 29
    replace HAT := Lib.hid (HAT.out.carry hbn)
    replace MAT := Lib.hid (MAT.out.carry hbn)
    replace SAT := Lib.hid (SAT.out.carry hbn)
    replace UAT := Lib.hid (UAT.out.carry hbn)
    replace HH := Lib.hid (HH.out.grow hbn)
    replace FA := Lib.hid (FA.out.carry hbn)
    replace FB := Lib.hid (FB.out.carry hbn)
    replace hB := hB.trans (hbn.mono hB.size)
    clear hbn
    obtain ⟨Bp, hBq⟩ : ∃ b, w9.heap.size = b := ⟨_, rfl⟩
    simp only [hBq] at hF ⊢
    have FQ := Lib.hid hF
    clear hF
    generalize w9.alloc (.cells #[.int .i64 (Q.1), .int .i64 (Q.2.1)] 29) = W9 at *
    clear hBq
    obtain ⟨k0, k1, k2, k3⟩ := HAT.out
    obtain ⟨m0, m1, m2, m3, m4⟩ := MAT.out
    go_upto_region 14 with (go_at_call 9; (with_reducible refine (HE1.out _ HH.out).mono ?_); rintro e w10 ⟨rfl, hbs⟩)
    clear k0 k1 k2 k3 m0 m1 m2 m3 m4
    replace HAT := Lib.hid (HAT.out.carry hbs)
    replace MAT := Lib.hid (MAT.out.carry hbs)
    replace SAT := Lib.hid (SAT.out.carry hbs)
    replace UAT := Lib.hid (UAT.out.carry hbs)
    replace HH := Lib.hid (HH.out.grow hbs)
    replace FA := Lib.hid (FA.out.carry hbs)
    replace FB := Lib.hid (FB.out.carry hbs)
    replace FQ := Lib.hid (FQ.out.carry hbs)
    replace hB := hB.trans (hbs.mono hB.size)
    clear hbs
    have hbn := below_new w10 (.cells #[.int .i64 (P.1), .int .i64 (P.2)] 29)
    have hF := FI.put w10 (P.1) (P.2) 29
    replace HAT := Lib.hid (HAT.out.carry hbn)
    replace MAT := Lib.hid (MAT.out.carry hbn)
    replace SAT := Lib.hid (SAT.out.carry hbn)
    replace UAT := Lib.hid (UAT.out.carry hbn)
    replace HH := Lib.hid (HH.out.grow hbn)
    replace FA := Lib.hid (FA.out.carry hbn)
    replace FB := Lib.hid (FB.out.carry hbn)
    replace FQ := Lib.hid (FQ.out.carry hbn)
    replace hB := hB.trans (hbn.mono hB.size)
    clear hbn
    obtain ⟨Be, hBq⟩ : ∃ b, w10.heap.size = b := ⟨_, rfl⟩
    simp only [hBq] at hF ⊢
    have FP := Lib.hid hF
    clear hF
    generalize w10.alloc (.cells #[.int .i64 (P.1), .int .i64 (P.2)] 29) = W10 at *
    clear hBq
    by_cases ae : A.2.2 = 0
    ·have e0 := HZE.out ae
     have hE0 : E = 0 := HE.out.symm.trans e0
     rcases HPR.out e0 ae with be | ⟨be, qe, hok⟩
     ·have p1 : (A.2.2 != 0) = false := by rw [ae]; rfl
      simp only [be]
      clear ae be hE0 e0 HZE HPR HE HP
      go_wp2_with fail
      go_ret
      exact ⟨rfl, hB⟩
     ·have hPT : P = timeP (mgD f m) m t := by rw [← HP.out]; unfold endP; rw [if_pos e0]
      have vP : vF P = true := by rw [hPT]; exact time_vF (HGO.out e0).gd (HGO.out e0).top
      rw [← hPT] at hok
      simp only [ae, be, qe, hE0]
      obtain ⟨o, ho⟩ : ∃ o, cmpP (s.1 * P.2) (P.1 * s.2) = o := ⟨_, rfl⟩
      have HC2 : Hid (∀ w : World, Calls Try.prog 12 #[.agg #[.int .i64 s.1, .int .i64 s.2], .agg #[.int .i64 P.1, .int .i64 P.2]] w fun e w' => e = .returned (.tuple #[.int .i64 o, .int .i64 0]) ∧ Below w.heap.size w w') := Lib.hid fun w => by
       have := cmp_gen s P w
       rwa [cmpG_ok HVT.out vP, ho] at this
      have hlt := hok.late
      rw [ho] at hlt
      have HOK := Lib.hid hok
      clear ae be qe hE0 e0 HZE HPR HE HP hPT vP ho hok
      obtain ⟨m0, m1, m2, m3, m4⟩ := MAT.out
      have hsz : w.heap.size + 1 < W10.heap.size := World.block_lt_of_cell? _ _ m0
      by_cases c : m.to < f
      ·have hc := decide_eq_true c
       have HSG : Hid (sgn f m = (-1)) := Lib.hid (by unfold sgn; rw [if_pos c])
       go_upto_region 20 with (fail)
       clear m0 m1 m2 m3 m4
       clear hc c hsz
       have hbn := below_new W10 (.cells #[.int .i64 (-1)] 3)
       have hF := CellAt.new W10 (.int .i64 (-1)) 3
       replace HAT := Lib.hid (HAT.out.carry hbn)
       replace MAT := Lib.hid (MAT.out.carry hbn)
       replace SAT := Lib.hid (SAT.out.carry hbn)
       replace UAT := Lib.hid (UAT.out.carry hbn)
       replace HH := Lib.hid (HH.out.grow hbn)
       replace FA := Lib.hid (FA.out.carry hbn)
       replace FB := Lib.hid (FB.out.carry hbn)
       replace FQ := Lib.hid (FQ.out.carry hbn)
       replace FP := Lib.hid (FP.out.carry hbn)
       replace hB := hB.trans (hbn.mono hB.size)
       clear hbn
       obtain ⟨Bg, hBq⟩ : ∃ b, W10.heap.size = b := ⟨_, rfl⟩
       simp only [hBq] at hF ⊢
       have GAT := Lib.hid hF
       clear hF
       generalize W10.alloc (.cells #[.int .i64 (-1)] 3) = W11 at *
       clear hBq
       obtain ⟨t0, t1, _, _, _⟩ := UAT.out
       obtain ⟨p0, p1, _, _, _⟩ := FP.out
       go_upto_region 21 with (go_at_call 12; (with_reducible refine (HC2.out _).mono ?_); rintro e w12 ⟨rfl, hbs⟩)
       clear t0 t1 p0 p1
       replace HAT := Lib.hid (HAT.out.carry hbs)
       replace MAT := Lib.hid (MAT.out.carry hbs)
       replace SAT := Lib.hid (SAT.out.carry hbs)
       replace UAT := Lib.hid (UAT.out.carry hbs)
       replace HH := Lib.hid (HH.out.grow hbs)
       replace FA := Lib.hid (FA.out.carry hbs)
       replace FB := Lib.hid (FB.out.carry hbs)
       replace FQ := Lib.hid (FQ.out.carry hbs)
       replace FP := Lib.hid (FP.out.carry hbs)
       replace GAT := Lib.hid (GAT.out.carry hbs)
       replace hB := hB.trans (hbs.mono hB.size)
       clear hbs
       have HOS := HOK.out
       have h1 := HOS.one
       have h2 := HOS.two
       have h3 := HOS.three
       rw [HSG.out] at h1 h2 h3
       clear HOS HOK
       by_cases ol : 0 ≤ o
       ·obtain rfl := hlt ol
        have ho : decide (o < 0) = false := decide_eq_false (by omega)
        clear ol hlt
        have HF1 := Lib.hid (fun (w' : World) (hb : Below w12.heap.size w12 w') => far_any (-1) (Q.1, Q.2.1) (A.1, A.2.1) h1 Bg w' (GAT.out.carry hb))
        have HF2 := Lib.hid (fun (w' : World) (hb : Below w12.heap.size w12 w') => far_any (-1) (A.1, A.2.1) (m.to, 1) h2 Bg w' (GAT.out.carry hb))
        have HF3 := Lib.hid (fun (w' : World) (hb : Below w12.heap.size w12 w') => far_any (-1) (m.to, 1) (m.to, 1) h3 Bg w' (GAT.out.carry hb))
        have HS : Hid (∀ w', Below w12.heap.size w12 w' → w'.cell? ⟨Bp, 0, none⟩ = some (.int .i64 Q.1) ∧ w'.cell? ⟨Bp, 1, none⟩ = some (.int .i64 Q.2.1) ∧ w'.cell? ⟨Ba, 0, none⟩ = some (.int .i64 A.1) ∧ w'.cell? ⟨Ba, 1, none⟩ = some (.int .i64 A.2.1) ∧ w'.cell? ⟨Bb, 0, none⟩ = some (.int .i64 m.to) ∧ w'.cell? ⟨Bb, 1, none⟩ = some (.int .i64 1) ∧ w'.cell? ⟨w.heap.size + 1, 1, none⟩ = some (.int .i64 m.to)) := Lib.hid fun w' hb => by
         obtain ⟨z0, z1, _⟩ := FQ.out.carry hb
         obtain ⟨x0, x1, _⟩ := FA.out.carry hb
         obtain ⟨y0, y1, _⟩ := FB.out.carry hb
         obtain ⟨_, m1, _⟩ := MAT.out.carry hb
         exact ⟨z0, z1, x0, x1, y0, y1, m1⟩
        clear h1 h2 h3
        refine stR21a (A := A) (Q := Q) HF1 HF2 HF3 ho r2 HS ?_
        intro v10 v109 v110 v111 v112 v113 v114 v115 v116 v117 v118 v119 v120 v121 v122 v123 v124 v125 v126 v127 v128 v129 v130 v131 v132 v133 v134 v135 v136 v137 v138 v139 v140 v141 W13 hcut
        obtain ⟨rfl, hbs⟩ := hcut
        go_wp2_with fail
        go_ret
        exact ⟨rfl, hB.trans (hbs.mono hB.size)⟩
       ·have ho : decide (o < 0) = true := decide_eq_true (by omega)
        clear ol hlt
        have HF1 := Lib.hid (fun (w' : World) (hb : Below w12.heap.size w12 w') => far_any (-1) (Q.1, Q.2.1) (A.1, A.2.1) h1 Bg w' (GAT.out.carry hb))
        have HF2 := Lib.hid (fun (w' : World) (hb : Below w12.heap.size w12 w') => far_any (-1) (A.1, A.2.1) (B.1, B.2.1) h2 Bg w' (GAT.out.carry hb))
        have HF3 := Lib.hid (fun (w' : World) (hb : Below w12.heap.size w12 w') => far_any (-1) (B.1, B.2.1) (m.to, 1) h3 Bg w' (GAT.out.carry hb))
        have HS : Hid (∀ w', Below w12.heap.size w12 w' → w'.cell? ⟨Bp, 0, none⟩ = some (.int .i64 Q.1) ∧ w'.cell? ⟨Bp, 1, none⟩ = some (.int .i64 Q.2.1) ∧ w'.cell? ⟨Ba, 0, none⟩ = some (.int .i64 A.1) ∧ w'.cell? ⟨Ba, 1, none⟩ = some (.int .i64 A.2.1) ∧ w'.cell? ⟨Bb, 0, none⟩ = some (.int .i64 B.1) ∧ w'.cell? ⟨Bb, 1, none⟩ = some (.int .i64 B.2.1) ∧ w'.cell? ⟨w.heap.size + 1, 1, none⟩ = some (.int .i64 m.to)) := Lib.hid fun w' hb => by
         obtain ⟨z0, z1, _⟩ := FQ.out.carry hb
         obtain ⟨x0, x1, _⟩ := FA.out.carry hb
         obtain ⟨y0, y1, _⟩ := FB.out.carry hb
         obtain ⟨_, m1, _⟩ := MAT.out.carry hb
         exact ⟨z0, z1, x0, x1, y0, y1, m1⟩
        clear h1 h2 h3
        refine stR21b (A := A) (Q := Q) (B := B) HF1 HF2 HF3 ho HS ?_
        intro v10 v109 v110 v111 v112 v113 v114 v115 v116 v117 v118 v119 v120 v121 v122 v123 v124 v125 v126 v127 v128 v129 v130 v131 v132 v133 v134 v135 v136 v137 v138 v139 v140 v141 W13 hcut
        obtain ⟨rfl, hbs⟩ := hcut
        go_wp2_with fail
        go_ret
        exact ⟨rfl, hB.trans (hbs.mono hB.size)⟩
      ·have hc := decide_eq_false c
       have HSG : Hid (sgn f m = 1) := Lib.hid (by unfold sgn; rw [if_neg c])
       go_upto_region 20 with (fail)
       clear m0 m1 m2 m3 m4
       clear hc c hsz
       have hbn := below_new W10 (.cells #[.int .i64 1] 3)
       have hF := CellAt.new W10 (.int .i64 1) 3
       replace HAT := Lib.hid (HAT.out.carry hbn)
       replace MAT := Lib.hid (MAT.out.carry hbn)
       replace SAT := Lib.hid (SAT.out.carry hbn)
       replace UAT := Lib.hid (UAT.out.carry hbn)
       replace HH := Lib.hid (HH.out.grow hbn)
       replace FA := Lib.hid (FA.out.carry hbn)
       replace FB := Lib.hid (FB.out.carry hbn)
       replace FQ := Lib.hid (FQ.out.carry hbn)
       replace FP := Lib.hid (FP.out.carry hbn)
       replace hB := hB.trans (hbn.mono hB.size)
       clear hbn
       obtain ⟨Bg, hBq⟩ : ∃ b, W10.heap.size = b := ⟨_, rfl⟩
       simp only [hBq] at hF ⊢
       have GAT := Lib.hid hF
       clear hF
       generalize W10.alloc (.cells #[.int .i64 1] 3) = W11 at *
       clear hBq
       obtain ⟨t0, t1, _, _, _⟩ := UAT.out
       obtain ⟨p0, p1, _, _, _⟩ := FP.out
       go_upto_region 21 with (go_at_call 12; (with_reducible refine (HC2.out _).mono ?_); rintro e w12 ⟨rfl, hbs⟩)
       clear t0 t1 p0 p1
       replace HAT := Lib.hid (HAT.out.carry hbs)
       replace MAT := Lib.hid (MAT.out.carry hbs)
       replace SAT := Lib.hid (SAT.out.carry hbs)
       replace UAT := Lib.hid (UAT.out.carry hbs)
       replace HH := Lib.hid (HH.out.grow hbs)
       replace FA := Lib.hid (FA.out.carry hbs)
       replace FB := Lib.hid (FB.out.carry hbs)
       replace FQ := Lib.hid (FQ.out.carry hbs)
       replace FP := Lib.hid (FP.out.carry hbs)
       replace GAT := Lib.hid (GAT.out.carry hbs)
       replace hB := hB.trans (hbs.mono hB.size)
       clear hbs
       have HOS := HOK.out
       have h1 := HOS.one
       have h2 := HOS.two
       have h3 := HOS.three
       rw [HSG.out] at h1 h2 h3
       clear HOS HOK
       by_cases ol : 0 ≤ o
       ·obtain rfl := hlt ol
        have ho : decide (o < 0) = false := decide_eq_false (by omega)
        clear ol hlt
        have HF1 := Lib.hid (fun (w' : World) (hb : Below w12.heap.size w12 w') => far_any 1 (Q.1, Q.2.1) (A.1, A.2.1) h1 Bg w' (GAT.out.carry hb))
        have HF2 := Lib.hid (fun (w' : World) (hb : Below w12.heap.size w12 w') => far_any 1 (A.1, A.2.1) (m.to, 1) h2 Bg w' (GAT.out.carry hb))
        have HF3 := Lib.hid (fun (w' : World) (hb : Below w12.heap.size w12 w') => far_any 1 (m.to, 1) (m.to, 1) h3 Bg w' (GAT.out.carry hb))
        have HS : Hid (∀ w', Below w12.heap.size w12 w' → w'.cell? ⟨Bp, 0, none⟩ = some (.int .i64 Q.1) ∧ w'.cell? ⟨Bp, 1, none⟩ = some (.int .i64 Q.2.1) ∧ w'.cell? ⟨Ba, 0, none⟩ = some (.int .i64 A.1) ∧ w'.cell? ⟨Ba, 1, none⟩ = some (.int .i64 A.2.1) ∧ w'.cell? ⟨Bb, 0, none⟩ = some (.int .i64 m.to) ∧ w'.cell? ⟨Bb, 1, none⟩ = some (.int .i64 1) ∧ w'.cell? ⟨w.heap.size + 1, 1, none⟩ = some (.int .i64 m.to)) := Lib.hid fun w' hb => by
         obtain ⟨z0, z1, _⟩ := FQ.out.carry hb
         obtain ⟨x0, x1, _⟩ := FA.out.carry hb
         obtain ⟨y0, y1, _⟩ := FB.out.carry hb
         obtain ⟨_, m1, _⟩ := MAT.out.carry hb
         exact ⟨z0, z1, x0, x1, y0, y1, m1⟩
        clear h1 h2 h3
        refine stR21a (A := A) (Q := Q) HF1 HF2 HF3 ho r2 HS ?_
        intro v10 v109 v110 v111 v112 v113 v114 v115 v116 v117 v118 v119 v120 v121 v122 v123 v124 v125 v126 v127 v128 v129 v130 v131 v132 v133 v134 v135 v136 v137 v138 v139 v140 v141 W13 hcut
        obtain ⟨rfl, hbs⟩ := hcut
        go_wp2_with fail
        go_ret
        exact ⟨rfl, hB.trans (hbs.mono hB.size)⟩
       ·have ho : decide (o < 0) = true := decide_eq_true (by omega)
        clear ol hlt
        have HF1 := Lib.hid (fun (w' : World) (hb : Below w12.heap.size w12 w') => far_any 1 (Q.1, Q.2.1) (A.1, A.2.1) h1 Bg w' (GAT.out.carry hb))
        have HF2 := Lib.hid (fun (w' : World) (hb : Below w12.heap.size w12 w') => far_any 1 (A.1, A.2.1) (B.1, B.2.1) h2 Bg w' (GAT.out.carry hb))
        have HF3 := Lib.hid (fun (w' : World) (hb : Below w12.heap.size w12 w') => far_any 1 (B.1, B.2.1) (m.to, 1) h3 Bg w' (GAT.out.carry hb))
        have HS : Hid (∀ w', Below w12.heap.size w12 w' → w'.cell? ⟨Bp, 0, none⟩ = some (.int .i64 Q.1) ∧ w'.cell? ⟨Bp, 1, none⟩ = some (.int .i64 Q.2.1) ∧ w'.cell? ⟨Ba, 0, none⟩ = some (.int .i64 A.1) ∧ w'.cell? ⟨Ba, 1, none⟩ = some (.int .i64 A.2.1) ∧ w'.cell? ⟨Bb, 0, none⟩ = some (.int .i64 B.1) ∧ w'.cell? ⟨Bb, 1, none⟩ = some (.int .i64 B.2.1) ∧ w'.cell? ⟨w.heap.size + 1, 1, none⟩ = some (.int .i64 m.to)) := Lib.hid fun w' hb => by
         obtain ⟨z0, z1, _⟩ := FQ.out.carry hb
         obtain ⟨x0, x1, _⟩ := FA.out.carry hb
         obtain ⟨y0, y1, _⟩ := FB.out.carry hb
         obtain ⟨_, m1, _⟩ := MAT.out.carry hb
         exact ⟨z0, z1, x0, x1, y0, y1, m1⟩
        clear h1 h2 h3
        refine stR21b (A := A) (Q := Q) (B := B) HF1 HF2 HF3 ho HS ?_
        intro v10 v109 v110 v111 v112 v113 v114 v115 v116 v117 v118 v119 v120 v121 v122 v123 v124 v125 v126 v127 v128 v129 v130 v131 v132 v133 v134 v135 v136 v137 v138 v139 v140 v141 W13 hcut
        obtain ⟨rfl, hbs⟩ := hcut
        go_wp2_with fail
        go_ret
        exact ⟨rfl, hB.trans (hbs.mono hB.size)⟩
    ·have p1 : (A.2.2 != 0) = true := by simpa using ae
     clear ae HZE HPR
     go_wp2_with fail
     go_ret
     exact ⟨rfl, hB⟩
   ·have p2 := decide_eq_false cs
    have vS := vs
    have vT := vu
    have hle : s.1 * u.2 ≤ u.1 * s.2 := cmp_nge (by omega)
    clear vs vu hc cs
    go_upto_region 10 with (fail)
    obtain ⟨A, hA⟩ : ∃ X, haltP h f m s t = X := ⟨_, rfl⟩
    have HA : Hid (∀ w : World, HouseIn w h → Calls Try.prog 13 #[.agg #[.string h.name, .int .i64 h.height, .slice h.sa h.sets.length h.sc, .slice h.ra h.roofs.length h.rc], .int .i64 f, .agg #[.string m.name, .int .i64 m.to, .int .i64 m.spd, .int .i64 m.rise, .int .i64 m.fall], .agg #[.int .i64 s.1, .int .i64 s.2]] w fun e w' => e = .returned (.tuple #[.agg #[.int .i64 A.1, .int .i64 A.2.1], .int .i64 A.2.2]) ∧ Below w.heap.size w w') := Lib.hid fun w hh => by
     have := HHX.out s w hh
     rwa [hA] at this
    obtain ⟨B, hB9⟩ : ∃ X, haltP h f m u t = X := ⟨_, rfl⟩
    have HBB : Hid (∀ w : World, HouseIn w h → Calls Try.prog 13 #[.agg #[.string h.name, .int .i64 h.height, .slice h.sa h.sets.length h.sc, .slice h.ra h.roofs.length h.rc], .int .i64 f, .agg #[.string m.name, .int .i64 m.to, .int .i64 m.spd, .int .i64 m.rise, .int .i64 m.fall], .agg #[.int .i64 u.1, .int .i64 u.2]] w fun e w' => e = .returned (.tuple #[.agg #[.int .i64 B.1, .int .i64 B.2.1], .int .i64 B.2.2]) ∧ Below w.heap.size w w') := Lib.hid fun w hh => by
     have := HHX.out u w hh
     rwa [hB9] at this
    obtain ⟨Q, hQ⟩ : ∃ X, matP h f m s t = X := ⟨_, rfl⟩
    have HQ : Hid (∀ w : World, HouseIn w h → Calls Try.prog 10 #[.agg #[.string h.name, .int .i64 h.height, .slice h.sa h.sets.length h.sc, .slice h.ra h.roofs.length h.rc], .int .i64 f, .agg #[.string m.name, .int .i64 m.to, .int .i64 m.spd, .int .i64 m.rise, .int .i64 m.fall], .agg #[.int .i64 s.1, .int .i64 s.2]] w fun e w' => e = .returned (.tuple #[.agg #[.int .i64 Q.1, .int .i64 Q.2.1], .int .i64 Q.2.2]) ∧ Below w.heap.size w w') := Lib.hid fun w hh => by
     have := HAX.out s w hh
     rwa [hQ] at this
    have hpair := fun (e : mgE h f m = 0) (ha : (haltP h f m s t).2.2 = 0) => stops_pair e (HGO.out e) vS vT hle ha
    have hze : A.2.2 = 0 → mgE h f m = 0 := fun z => by
     rw [← hA] at z
     by_cases c : mtE h f m s = 0
     ·exact (mt_ok c).1
     ·unfold haltP at z; rw [if_neg c] at z; exact absurd z c
    rw [hA, hB9, hQ] at hpair
    clear hA hB9 hQ hle vS
    have HPR := Lib.hid hpair
    have HZE := Lib.hid hze
    have HVT := Lib.hid vT
    clear hpair hze vT
    obtain ⟨k0, k1, k2, k3⟩ := HAT.out
    obtain ⟨m0, m1, m2, m3, m4⟩ := MAT.out
    obtain ⟨s0, s1, _, _, _⟩ := SAT.out
    go_upto_region 11 with (go_at_call 13; (with_reducible refine (HA.out _ HH.out).mono ?_); rintro e w7 ⟨rfl, hbs⟩)
    clear k0 k1 k2 k3 m0 m1 m2 m3 m4 s0 s1
    replace HAT := Lib.hid (HAT.out.carry hbs)
    replace MAT := Lib.hid (MAT.out.carry hbs)
    replace SAT := Lib.hid (SAT.out.carry hbs)
    replace UAT := Lib.hid (UAT.out.carry hbs)
    replace HH := Lib.hid (HH.out.grow hbs)
    replace hB := hB.trans (hbs.mono hB.size)
    clear hbs
    have hbn := below_new w7 (.cells #[.int .i64 (A.1), .int .i64 (A.2.1)] 29)
    have hF := FI.put w7 (A.1) (A.2.1) 29
    replace HAT := Lib.hid (HAT.out.carry hbn)
    replace MAT := Lib.hid (MAT.out.carry hbn)
    replace SAT := Lib.hid (SAT.out.carry hbn)
    replace UAT := Lib.hid (UAT.out.carry hbn)
    replace HH := Lib.hid (HH.out.grow hbn)
    replace hB := hB.trans (hbn.mono hB.size)
    clear hbn
    obtain ⟨Ba, hBq⟩ : ∃ b, w7.heap.size = b := ⟨_, rfl⟩
    simp only [hBq] at hF ⊢
    have FA := Lib.hid hF
    clear hF
    generalize w7.alloc (.cells #[.int .i64 (A.1), .int .i64 (A.2.1)] 29) = W7 at *
    clear hBq
    obtain ⟨k0, k1, k2, k3⟩ := HAT.out
    obtain ⟨m0, m1, m2, m3, m4⟩ := MAT.out
    obtain ⟨t0, t1, _, _, _⟩ := UAT.out
    go_upto_region 12 with (go_at_call 13; (with_reducible refine (HBB.out _ HH.out).mono ?_); rintro e w8 ⟨rfl, hbs⟩)
    clear k0 k1 k2 k3 m0 m1 m2 m3 m4 t0 t1
    replace HAT := Lib.hid (HAT.out.carry hbs)
    replace MAT := Lib.hid (MAT.out.carry hbs)
    replace SAT := Lib.hid (SAT.out.carry hbs)
    replace UAT := Lib.hid (UAT.out.carry hbs)
    replace HH := Lib.hid (HH.out.grow hbs)
    replace FA := Lib.hid (FA.out.carry hbs)
    replace hB := hB.trans (hbs.mono hB.size)
    clear hbs
    have hbn := below_new w8 (.cells #[.int .i64 (B.1), .int .i64 (B.2.1)] 29)
    have hF := FI.put w8 (B.1) (B.2.1) 29
    replace HAT := Lib.hid (HAT.out.carry hbn)
    replace MAT := Lib.hid (MAT.out.carry hbn)
    replace SAT := Lib.hid (SAT.out.carry hbn)
    replace UAT := Lib.hid (UAT.out.carry hbn)
    replace HH := Lib.hid (HH.out.grow hbn)
    replace FA := Lib.hid (FA.out.carry hbn)
    replace hB := hB.trans (hbn.mono hB.size)
    clear hbn
    obtain ⟨Bb, hBq⟩ : ∃ b, w8.heap.size = b := ⟨_, rfl⟩
    simp only [hBq] at hF ⊢
    have FB := Lib.hid hF
    clear hF
    generalize w8.alloc (.cells #[.int .i64 (B.1), .int .i64 (B.2.1)] 29) = W8 at *
    clear hBq
    obtain ⟨k0, k1, k2, k3⟩ := HAT.out
    obtain ⟨m0, m1, m2, m3, m4⟩ := MAT.out
    obtain ⟨s0, s1, _, _, _⟩ := SAT.out
    go_upto_region 13 with (go_at_call 10; (with_reducible refine (HQ.out _ HH.out).mono ?_); rintro e w9 ⟨rfl, hbs⟩)
    clear k0 k1 k2 k3 m0 m1 m2 m3 m4 s0 s1
    replace HAT := Lib.hid (HAT.out.carry hbs)
    replace MAT := Lib.hid (MAT.out.carry hbs)
    replace SAT := Lib.hid (SAT.out.carry hbs)
    replace UAT := Lib.hid (UAT.out.carry hbs)
    replace HH := Lib.hid (HH.out.grow hbs)
    replace FA := Lib.hid (FA.out.carry hbs)
    replace FB := Lib.hid (FB.out.carry hbs)
    replace hB := hB.trans (hbs.mono hB.size)
    clear hbs
    have hbn := below_new w9 (.cells #[.int .i64 (Q.1), .int .i64 (Q.2.1)] 29)
    have hF := FI.put w9 (Q.1) (Q.2.1) 29
    replace HAT := Lib.hid (HAT.out.carry hbn)
    replace MAT := Lib.hid (MAT.out.carry hbn)
    replace SAT := Lib.hid (SAT.out.carry hbn)
    replace UAT := Lib.hid (UAT.out.carry hbn)
    replace HH := Lib.hid (HH.out.grow hbn)
    replace FA := Lib.hid (FA.out.carry hbn)
    replace FB := Lib.hid (FB.out.carry hbn)
    replace hB := hB.trans (hbn.mono hB.size)
    clear hbn
    obtain ⟨Bp, hBq⟩ : ∃ b, w9.heap.size = b := ⟨_, rfl⟩
    simp only [hBq] at hF ⊢
    have FQ := Lib.hid hF
    clear hF
    generalize w9.alloc (.cells #[.int .i64 (Q.1), .int .i64 (Q.2.1)] 29) = W9 at *
    clear hBq
    obtain ⟨k0, k1, k2, k3⟩ := HAT.out
    obtain ⟨m0, m1, m2, m3, m4⟩ := MAT.out
    go_upto_region 14 with (go_at_call 9; (with_reducible refine (HE1.out _ HH.out).mono ?_); rintro e w10 ⟨rfl, hbs⟩)
    clear k0 k1 k2 k3 m0 m1 m2 m3 m4
    replace HAT := Lib.hid (HAT.out.carry hbs)
    replace MAT := Lib.hid (MAT.out.carry hbs)
    replace SAT := Lib.hid (SAT.out.carry hbs)
    replace UAT := Lib.hid (UAT.out.carry hbs)
    replace HH := Lib.hid (HH.out.grow hbs)
    replace FA := Lib.hid (FA.out.carry hbs)
    replace FB := Lib.hid (FB.out.carry hbs)
    replace FQ := Lib.hid (FQ.out.carry hbs)
    replace hB := hB.trans (hbs.mono hB.size)
    clear hbs
    have hbn := below_new w10 (.cells #[.int .i64 (P.1), .int .i64 (P.2)] 29)
    have hF := FI.put w10 (P.1) (P.2) 29
    replace HAT := Lib.hid (HAT.out.carry hbn)
    replace MAT := Lib.hid (MAT.out.carry hbn)
    replace SAT := Lib.hid (SAT.out.carry hbn)
    replace UAT := Lib.hid (UAT.out.carry hbn)
    replace HH := Lib.hid (HH.out.grow hbn)
    replace FA := Lib.hid (FA.out.carry hbn)
    replace FB := Lib.hid (FB.out.carry hbn)
    replace FQ := Lib.hid (FQ.out.carry hbn)
    replace hB := hB.trans (hbn.mono hB.size)
    clear hbn
    obtain ⟨Be, hBq⟩ : ∃ b, w10.heap.size = b := ⟨_, rfl⟩
    simp only [hBq] at hF ⊢
    have FP := Lib.hid hF
    clear hF
    generalize w10.alloc (.cells #[.int .i64 (P.1), .int .i64 (P.2)] 29) = W10 at *
    clear hBq
    by_cases ae : A.2.2 = 0
    ·have e0 := HZE.out ae
     have hE0 : E = 0 := HE.out.symm.trans e0
     rcases HPR.out e0 ae with be | ⟨be, qe, hok⟩
     ·have p1 : (A.2.2 != 0) = false := by rw [ae]; rfl
      simp only [be]
      clear ae be hE0 e0 HZE HPR HE HP
      go_wp2_with fail
      go_ret
      exact ⟨rfl, hB⟩
     ·have hPT : P = timeP (mgD f m) m t := by rw [← HP.out]; unfold endP; rw [if_pos e0]
      have vP : vF P = true := by rw [hPT]; exact time_vF (HGO.out e0).gd (HGO.out e0).top
      rw [← hPT] at hok
      simp only [ae, be, qe, hE0]
      obtain ⟨o, ho⟩ : ∃ o, cmpP (u.1 * P.2) (P.1 * u.2) = o := ⟨_, rfl⟩
      have HC2 : Hid (∀ w : World, Calls Try.prog 12 #[.agg #[.int .i64 u.1, .int .i64 u.2], .agg #[.int .i64 P.1, .int .i64 P.2]] w fun e w' => e = .returned (.tuple #[.int .i64 o, .int .i64 0]) ∧ Below w.heap.size w w') := Lib.hid fun w => by
       have := cmp_gen u P w
       rwa [cmpG_ok HVT.out vP, ho] at this
      have hlt := hok.late
      rw [ho] at hlt
      have HOK := Lib.hid hok
      clear ae be qe hE0 e0 HZE HPR HE HP hPT vP ho hok
      obtain ⟨m0, m1, m2, m3, m4⟩ := MAT.out
      have hsz : w.heap.size + 1 < W10.heap.size := World.block_lt_of_cell? _ _ m0
      by_cases c : m.to < f
      ·have hc := decide_eq_true c
       have HSG : Hid (sgn f m = (-1)) := Lib.hid (by unfold sgn; rw [if_pos c])
       go_upto_region 20 with (fail)
       clear m0 m1 m2 m3 m4
       clear hc c hsz
       have hbn := below_new W10 (.cells #[.int .i64 (-1)] 3)
       have hF := CellAt.new W10 (.int .i64 (-1)) 3
       replace HAT := Lib.hid (HAT.out.carry hbn)
       replace MAT := Lib.hid (MAT.out.carry hbn)
       replace SAT := Lib.hid (SAT.out.carry hbn)
       replace UAT := Lib.hid (UAT.out.carry hbn)
       replace HH := Lib.hid (HH.out.grow hbn)
       replace FA := Lib.hid (FA.out.carry hbn)
       replace FB := Lib.hid (FB.out.carry hbn)
       replace FQ := Lib.hid (FQ.out.carry hbn)
       replace FP := Lib.hid (FP.out.carry hbn)
       replace hB := hB.trans (hbn.mono hB.size)
       clear hbn
       obtain ⟨Bg, hBq⟩ : ∃ b, W10.heap.size = b := ⟨_, rfl⟩
       simp only [hBq] at hF ⊢
       have GAT := Lib.hid hF
       clear hF
       generalize W10.alloc (.cells #[.int .i64 (-1)] 3) = W11 at *
       clear hBq
       obtain ⟨t0, t1, _, _, _⟩ := UAT.out
       obtain ⟨p0, p1, _, _, _⟩ := FP.out
       go_upto_region 21 with (go_at_call 12; (with_reducible refine (HC2.out _).mono ?_); rintro e w12 ⟨rfl, hbs⟩)
       clear t0 t1 p0 p1
       replace HAT := Lib.hid (HAT.out.carry hbs)
       replace MAT := Lib.hid (MAT.out.carry hbs)
       replace SAT := Lib.hid (SAT.out.carry hbs)
       replace UAT := Lib.hid (UAT.out.carry hbs)
       replace HH := Lib.hid (HH.out.grow hbs)
       replace FA := Lib.hid (FA.out.carry hbs)
       replace FB := Lib.hid (FB.out.carry hbs)
       replace FQ := Lib.hid (FQ.out.carry hbs)
       replace FP := Lib.hid (FP.out.carry hbs)
       replace GAT := Lib.hid (GAT.out.carry hbs)
       replace hB := hB.trans (hbs.mono hB.size)
       clear hbs
       have HOS := HOK.out
       have h1 := HOS.one
       have h2 := HOS.two
       have h3 := HOS.three
       rw [HSG.out] at h1 h2 h3
       clear HOS HOK
       by_cases ol : 0 ≤ o
       ·obtain rfl := hlt ol
        have ho : decide (o < 0) = false := decide_eq_false (by omega)
        clear ol hlt
        have HF1 := Lib.hid (fun (w' : World) (hb : Below w12.heap.size w12 w') => far_any (-1) (Q.1, Q.2.1) (A.1, A.2.1) h1 Bg w' (GAT.out.carry hb))
        have HF2 := Lib.hid (fun (w' : World) (hb : Below w12.heap.size w12 w') => far_any (-1) (A.1, A.2.1) (m.to, 1) h2 Bg w' (GAT.out.carry hb))
        have HF3 := Lib.hid (fun (w' : World) (hb : Below w12.heap.size w12 w') => far_any (-1) (m.to, 1) (m.to, 1) h3 Bg w' (GAT.out.carry hb))
        have HS : Hid (∀ w', Below w12.heap.size w12 w' → w'.cell? ⟨Bp, 0, none⟩ = some (.int .i64 Q.1) ∧ w'.cell? ⟨Bp, 1, none⟩ = some (.int .i64 Q.2.1) ∧ w'.cell? ⟨Ba, 0, none⟩ = some (.int .i64 A.1) ∧ w'.cell? ⟨Ba, 1, none⟩ = some (.int .i64 A.2.1) ∧ w'.cell? ⟨Bb, 0, none⟩ = some (.int .i64 m.to) ∧ w'.cell? ⟨Bb, 1, none⟩ = some (.int .i64 1) ∧ w'.cell? ⟨w.heap.size + 1, 1, none⟩ = some (.int .i64 m.to)) := Lib.hid fun w' hb => by
         obtain ⟨z0, z1, _⟩ := FQ.out.carry hb
         obtain ⟨x0, x1, _⟩ := FA.out.carry hb
         obtain ⟨y0, y1, _⟩ := FB.out.carry hb
         obtain ⟨_, m1, _⟩ := MAT.out.carry hb
         exact ⟨z0, z1, x0, x1, y0, y1, m1⟩
        clear h1 h2 h3
        refine stR21a (A := A) (Q := Q) HF1 HF2 HF3 ho r2 HS ?_
        intro v10 v109 v110 v111 v112 v113 v114 v115 v116 v117 v118 v119 v120 v121 v122 v123 v124 v125 v126 v127 v128 v129 v130 v131 v132 v133 v134 v135 v136 v137 v138 v139 v140 v141 W13 hcut
        obtain ⟨rfl, hbs⟩ := hcut
        go_wp2_with fail
        go_ret
        exact ⟨rfl, hB.trans (hbs.mono hB.size)⟩
       ·have ho : decide (o < 0) = true := decide_eq_true (by omega)
        clear ol hlt
        have HF1 := Lib.hid (fun (w' : World) (hb : Below w12.heap.size w12 w') => far_any (-1) (Q.1, Q.2.1) (A.1, A.2.1) h1 Bg w' (GAT.out.carry hb))
        have HF2 := Lib.hid (fun (w' : World) (hb : Below w12.heap.size w12 w') => far_any (-1) (A.1, A.2.1) (B.1, B.2.1) h2 Bg w' (GAT.out.carry hb))
        have HF3 := Lib.hid (fun (w' : World) (hb : Below w12.heap.size w12 w') => far_any (-1) (B.1, B.2.1) (m.to, 1) h3 Bg w' (GAT.out.carry hb))
        have HS : Hid (∀ w', Below w12.heap.size w12 w' → w'.cell? ⟨Bp, 0, none⟩ = some (.int .i64 Q.1) ∧ w'.cell? ⟨Bp, 1, none⟩ = some (.int .i64 Q.2.1) ∧ w'.cell? ⟨Ba, 0, none⟩ = some (.int .i64 A.1) ∧ w'.cell? ⟨Ba, 1, none⟩ = some (.int .i64 A.2.1) ∧ w'.cell? ⟨Bb, 0, none⟩ = some (.int .i64 B.1) ∧ w'.cell? ⟨Bb, 1, none⟩ = some (.int .i64 B.2.1) ∧ w'.cell? ⟨w.heap.size + 1, 1, none⟩ = some (.int .i64 m.to)) := Lib.hid fun w' hb => by
         obtain ⟨z0, z1, _⟩ := FQ.out.carry hb
         obtain ⟨x0, x1, _⟩ := FA.out.carry hb
         obtain ⟨y0, y1, _⟩ := FB.out.carry hb
         obtain ⟨_, m1, _⟩ := MAT.out.carry hb
         exact ⟨z0, z1, x0, x1, y0, y1, m1⟩
        clear h1 h2 h3
        refine stR21b (A := A) (Q := Q) (B := B) HF1 HF2 HF3 ho HS ?_
        intro v10 v109 v110 v111 v112 v113 v114 v115 v116 v117 v118 v119 v120 v121 v122 v123 v124 v125 v126 v127 v128 v129 v130 v131 v132 v133 v134 v135 v136 v137 v138 v139 v140 v141 W13 hcut
        obtain ⟨rfl, hbs⟩ := hcut
        go_wp2_with fail
        go_ret
        exact ⟨rfl, hB.trans (hbs.mono hB.size)⟩
      ·have hc := decide_eq_false c
       have HSG : Hid (sgn f m = 1) := Lib.hid (by unfold sgn; rw [if_neg c])
       go_upto_region 20 with (fail)
       clear m0 m1 m2 m3 m4
       clear hc c hsz
       have hbn := below_new W10 (.cells #[.int .i64 1] 3)
       have hF := CellAt.new W10 (.int .i64 1) 3
       replace HAT := Lib.hid (HAT.out.carry hbn)
       replace MAT := Lib.hid (MAT.out.carry hbn)
       replace SAT := Lib.hid (SAT.out.carry hbn)
       replace UAT := Lib.hid (UAT.out.carry hbn)
       replace HH := Lib.hid (HH.out.grow hbn)
       replace FA := Lib.hid (FA.out.carry hbn)
       replace FB := Lib.hid (FB.out.carry hbn)
       replace FQ := Lib.hid (FQ.out.carry hbn)
       replace FP := Lib.hid (FP.out.carry hbn)
       replace hB := hB.trans (hbn.mono hB.size)
       clear hbn
       obtain ⟨Bg, hBq⟩ : ∃ b, W10.heap.size = b := ⟨_, rfl⟩
       simp only [hBq] at hF ⊢
       have GAT := Lib.hid hF
       clear hF
       generalize W10.alloc (.cells #[.int .i64 1] 3) = W11 at *
       clear hBq
       obtain ⟨t0, t1, _, _, _⟩ := UAT.out
       obtain ⟨p0, p1, _, _, _⟩ := FP.out
       go_upto_region 21 with (go_at_call 12; (with_reducible refine (HC2.out _).mono ?_); rintro e w12 ⟨rfl, hbs⟩)
       clear t0 t1 p0 p1
       replace HAT := Lib.hid (HAT.out.carry hbs)
       replace MAT := Lib.hid (MAT.out.carry hbs)
       replace SAT := Lib.hid (SAT.out.carry hbs)
       replace UAT := Lib.hid (UAT.out.carry hbs)
       replace HH := Lib.hid (HH.out.grow hbs)
       replace FA := Lib.hid (FA.out.carry hbs)
       replace FB := Lib.hid (FB.out.carry hbs)
       replace FQ := Lib.hid (FQ.out.carry hbs)
       replace FP := Lib.hid (FP.out.carry hbs)
       replace GAT := Lib.hid (GAT.out.carry hbs)
       replace hB := hB.trans (hbs.mono hB.size)
       clear hbs
       have HOS := HOK.out
       have h1 := HOS.one
       have h2 := HOS.two
       have h3 := HOS.three
       rw [HSG.out] at h1 h2 h3
       clear HOS HOK
       by_cases ol : 0 ≤ o
       ·obtain rfl := hlt ol
        have ho : decide (o < 0) = false := decide_eq_false (by omega)
        clear ol hlt
        have HF1 := Lib.hid (fun (w' : World) (hb : Below w12.heap.size w12 w') => far_any 1 (Q.1, Q.2.1) (A.1, A.2.1) h1 Bg w' (GAT.out.carry hb))
        have HF2 := Lib.hid (fun (w' : World) (hb : Below w12.heap.size w12 w') => far_any 1 (A.1, A.2.1) (m.to, 1) h2 Bg w' (GAT.out.carry hb))
        have HF3 := Lib.hid (fun (w' : World) (hb : Below w12.heap.size w12 w') => far_any 1 (m.to, 1) (m.to, 1) h3 Bg w' (GAT.out.carry hb))
        have HS : Hid (∀ w', Below w12.heap.size w12 w' → w'.cell? ⟨Bp, 0, none⟩ = some (.int .i64 Q.1) ∧ w'.cell? ⟨Bp, 1, none⟩ = some (.int .i64 Q.2.1) ∧ w'.cell? ⟨Ba, 0, none⟩ = some (.int .i64 A.1) ∧ w'.cell? ⟨Ba, 1, none⟩ = some (.int .i64 A.2.1) ∧ w'.cell? ⟨Bb, 0, none⟩ = some (.int .i64 m.to) ∧ w'.cell? ⟨Bb, 1, none⟩ = some (.int .i64 1) ∧ w'.cell? ⟨w.heap.size + 1, 1, none⟩ = some (.int .i64 m.to)) := Lib.hid fun w' hb => by
         obtain ⟨z0, z1, _⟩ := FQ.out.carry hb
         obtain ⟨x0, x1, _⟩ := FA.out.carry hb
         obtain ⟨y0, y1, _⟩ := FB.out.carry hb
         obtain ⟨_, m1, _⟩ := MAT.out.carry hb
         exact ⟨z0, z1, x0, x1, y0, y1, m1⟩
        clear h1 h2 h3
        refine stR21a (A := A) (Q := Q) HF1 HF2 HF3 ho r2 HS ?_
        intro v10 v109 v110 v111 v112 v113 v114 v115 v116 v117 v118 v119 v120 v121 v122 v123 v124 v125 v126 v127 v128 v129 v130 v131 v132 v133 v134 v135 v136 v137 v138 v139 v140 v141 W13 hcut
        obtain ⟨rfl, hbs⟩ := hcut
        go_wp2_with fail
        go_ret
        exact ⟨rfl, hB.trans (hbs.mono hB.size)⟩
       ·have ho : decide (o < 0) = true := decide_eq_true (by omega)
        clear ol hlt
        have HF1 := Lib.hid (fun (w' : World) (hb : Below w12.heap.size w12 w') => far_any 1 (Q.1, Q.2.1) (A.1, A.2.1) h1 Bg w' (GAT.out.carry hb))
        have HF2 := Lib.hid (fun (w' : World) (hb : Below w12.heap.size w12 w') => far_any 1 (A.1, A.2.1) (B.1, B.2.1) h2 Bg w' (GAT.out.carry hb))
        have HF3 := Lib.hid (fun (w' : World) (hb : Below w12.heap.size w12 w') => far_any 1 (B.1, B.2.1) (m.to, 1) h3 Bg w' (GAT.out.carry hb))
        have HS : Hid (∀ w', Below w12.heap.size w12 w' → w'.cell? ⟨Bp, 0, none⟩ = some (.int .i64 Q.1) ∧ w'.cell? ⟨Bp, 1, none⟩ = some (.int .i64 Q.2.1) ∧ w'.cell? ⟨Ba, 0, none⟩ = some (.int .i64 A.1) ∧ w'.cell? ⟨Ba, 1, none⟩ = some (.int .i64 A.2.1) ∧ w'.cell? ⟨Bb, 0, none⟩ = some (.int .i64 B.1) ∧ w'.cell? ⟨Bb, 1, none⟩ = some (.int .i64 B.2.1) ∧ w'.cell? ⟨w.heap.size + 1, 1, none⟩ = some (.int .i64 m.to)) := Lib.hid fun w' hb => by
         obtain ⟨z0, z1, _⟩ := FQ.out.carry hb
         obtain ⟨x0, x1, _⟩ := FA.out.carry hb
         obtain ⟨y0, y1, _⟩ := FB.out.carry hb
         obtain ⟨_, m1, _⟩ := MAT.out.carry hb
         exact ⟨z0, z1, x0, x1, y0, y1, m1⟩
        clear h1 h2 h3
        refine stR21b (A := A) (Q := Q) (B := B) HF1 HF2 HF3 ho HS ?_
        intro v10 v109 v110 v111 v112 v113 v114 v115 v116 v117 v118 v119 v120 v121 v122 v123 v124 v125 v126 v127 v128 v129 v130 v131 v132 v133 v134 v135 v136 v137 v138 v139 v140 v141 W13 hcut
        obtain ⟨rfl, hbs⟩ := hcut
        go_wp2_with fail
        go_ret
        exact ⟨rfl, hB.trans (hbs.mono hB.size)⟩
    ·have p1 : (A.2.2 != 0) = true := by simpa using ae
     clear ae HZE HPR
     go_wp2_with fail
     go_ret
     exact ⟨rfl, hB⟩
  ·have p1 : (C.2 != 0) = true := by simpa using ce
   clear ce HCM HCC
   go_wp2_with fail
   go_ret
   exact ⟨rfl, hB⟩
end Go.Proofs.Ytbgkgahmicepdaa
namespace Go.Proofs.Ytbgkgahmicepdaa
open Go.ChangeShapes Go.WideShapes Go.ChangeAt Go.WideMaps Go.WideElems Go.RowKit
open Go.ChangeMaps (open_string shut_string)
set_option maxRecDepth 100000 in
theorem moveStops_lifted (os : Os) (started : os.Started) (H : Type) (enc : TypeId × Value → H) :
  ReturnsInHanded {} Try.checked os 4 .any (Rows.moveStopsSpec.pre6 enc Try.prog Try.f4 Rows.moveStopsRow.domain false) (Rows.moveStopsSpec.post enc Try.prog Try.f4 false true false false) := by
 refine returnsInHanded_of_change (C := Try.checked) own started (by kernel_rfl) Try.func4
  (ChangeSpec.witness6 (enc := enc) (C := Try.checked) false ⟨#[], #[.agg #[.string ⟨#[]⟩, .int .i64 0, .slice none 0 0, .slice none 0 0], .int .i64 0, .agg #[.string ⟨#[]⟩, .int .i64 0, .int .i64 0, .int .i64 0, .int .i64 0], .agg #[.int .i64 0, .int .i64 0], .agg #[.int .i64 0, .int .i64 0]], []⟩ 8 (by kernel_rfl) (by kernel_rfl) (by kernel_rfl) (by kernel_rfl)) ?_
 intro W base args ds gs before hval0 hW hcnd _
 have hval : ∀ (j : Nat) t v, Try.f4.params[j]? = some t → args[j]? = some v → Value.okWide Try.prog W .any base t v := hval0
 have hW' := hW
 obtain ⟨p, q, hA0, hV, rfl, hfz, hnd⟩ := hW
 have hA : DataW.TrodAll enc Try.prog W 0 (fun _ => true) true Try.f4.params.toList args.toList ds p := hA0
 rw [Try.params4] at hA hval
 obtain ⟨v0, vs0, d0, ds0, p0, q0, hargs, rfl, rfl, h0, r0⟩ := trodAll_cons hA
 obtain ⟨v1, vs1, d1, ds1, p1, q1, rfl, rfl, rfl, h1, r1⟩ := trodAll_cons r0
 obtain ⟨v2, vs2, d2, ds2, p2, q2, rfl, rfl, rfl, h2, r2⟩ := trodAll_cons r1
 obtain ⟨v3, vs3, d3, ds3, p3, q3, rfl, rfl, rfl, h3, r3⟩ := trodAll_cons r2
 obtain ⟨v4, vs4, d4, ds4, p4, q4, rfl, rfl, rfl, h4, r4⟩ := trodAll_cons r3
 obtain ⟨rfl, rfl, rfl⟩ := trodAll_nil r4
 obtain rfl : args = #[v0, v1, v2, v3, v4] := by cases args; simp_all
 obtain ⟨rfl, rfl⟩ := trodVars_none hV
 obtain ⟨h, rfl, hS0⟩ := open_house (hval 0 25 v0 rfl rfl) h0
 obtain ⟨f, rfl, rfl, rfl, w1⟩ := open_int Try.underlying3 (hval 1 3 v1 rfl rfl) h1
 obtain ⟨m, rfl⟩ := open_move (hval 2 27 v2 rfl rfl) h2
 obtain ⟨s, rfl⟩ := open_frac (hval 3 29 v3 rfl rfl) h3
 obtain ⟨t, rfl⟩ := open_frac (hval 4 29 v4 rfl rfl) h4
 clear hA0 hval0
 simp only [List.append_nil] at hW'
 refine (lawstops_law h f m s t W hS0).mono fun e W' ⟨he, hb⟩ => ?_
 subst he
 exact ⟨_, rfl, law_post laidOut (by kernel_rfl) hW' rfl rfl (by kernel_rfl) Try.underlying4 hb⟩

theorem moveStops_holds : Rows.MoveStopsSaid :=
 OpenClaim.holds_of_wide 4 Try.f4 rfl rfl rfl rfl rfl rfl rfl ⟨rfl, rfl, rfl, rfl, rfl⟩ rfl rfl rfl rfl rfl (by kernel_rfl) Try.func4 (by kernel_rfl)
  (of_decide_eq_true (by kernel_rfl)) (by unfold Func.isWrapper; first | (rw [if_pos (by decide +kernel)]; kernel_rfl) | (rw [if_neg (by decide +kernel)]; exact ⟨rfl, rfl⟩))
  (fun os started H enc _ => moveStops_lifted os started H enc)
end Go.Proofs.Ytbgkgahmicepdaa
