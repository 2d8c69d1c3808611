/-
  THE WALK of ratio.Cmp at any two fractions: also at those that are not valid.
  PLAIN: a move's path begins at its first trim, never turns back, and rests at its last trim from its end on.
  THE WALK of the laws' awake: the chapter's example holds.
  FROM A WALK TO A ROW: a law that answers true and turns nothing that was there meets its row's post: each argument reads behind the call as it read before. Over any row of this seat.
  OPENING A SLICE OF RECORDS that came in, whatever the record: its cells, one behind the other, are those of a list.
-/
import Derived.Test.YtbgkgahmicepdaaRows
import Derived.ProofKit
import Derived.OpenShut
import Derived.Below
import Derived.ChangeSame
import Derived.Carry
import Derived.RowKit
import Derived.Deep.Slices
import Derived.Deep.Fields
import Derived.WalkKit
import Derived.Test.YtbgkgahmicepdaaZ16
import Derived.Test.YtbgkgahmicepdaaZ25
import Derived.Test.YtbgkgahmicepdaaZ20
import Derived.Test.YtbgkgahmicepdaaZ28
import Derived.Test.YtbgkgahmicepdaaZ31
import Derived.Test.YtbgkgahmicepdaaZ27
import Derived.Test.YtbgkgahmicepdaaZ1
import Derived.Test.YtbgkgahmicepdaaZ15
namespace Go.Proofs.Ytbgkgahmicepdaa
open Go.RowKit Go.Shelf
attribute [local go_sem] Oper.semAt_some
def cmpG (a b : Int × Int) : Int × Int := if vF a = true ∧ vF b = true then (cmpP (a.1 * b.2) (b.1 * a.2), 0) else (0, 1)
theorem cmpG_ok {a b : Int × Int} (va : vF a = true) (vb : vF b = true) : cmpG a b = (cmpP (a.1 * b.2) (b.1 * a.2), 0) := by unfold cmpG; rw [if_pos ⟨va, vb⟩]
theorem cmpG_valid {a b : Int × Int} (h : (cmpG a b).2 = 0) : vF a = true ∧ vF b = true ∧ cmpG a b = (cmpP (a.1 * b.2) (b.1 * a.2), 0) := by
 by_cases c : vF a = true ∧ vF b = true
 ·exact ⟨c.1, c.2, cmpG_ok c.1 c.2⟩
 ·unfold cmpG at h; rw [if_neg c] at h; cases h
set_option maxRecDepth 100000 in
set_option maxHeartbeats 8000000 in
theorem cmp_gen (a b : Int × Int) (w : World) :
  Calls Try.prog 12 #[.agg #[.int .i64 a.1, .int .i64 a.2], .agg #[.int .i64 b.1, .int .i64 b.2]] w fun e w' => e = .returned (.tuple #[.int .i64 (cmpG a b).1, .int .i64 (cmpG a b).2]) ∧ Below w.heap.size w w' := by
 cases va : vF a
 ·have HV := Lib.hid (show validF a.1 a.2 = false from va)
  have HC : Hid (cmpG a b = (0, 1)) := Lib.hid (by unfold cmpG; rw [if_neg fun q => by rw [va] at q; exact absurd q.1 (by decide)])
  rw [HC.out]
  clear va
  go_enter Try.func12, Try.ntmps12
  go_wp2_with (go_at_call 25; (with_reducible refine (valid_any a.1 a.2 _).mono ?_); rintro e w1 ⟨rfl, hb1⟩; rw [HV.out])
  go_ret2
  exact ⟨rfl, ((below_new w (.cells #[.int .i64 a.1, .int .i64 a.2] 29)).alloc (by simp) (.cells #[.int .i64 b.1, .int .i64 b.2] 29)).trans (hb1.mono (by simp <;> omega))⟩
 ·cases vb : vF b
  ·have HV := Lib.hid (show validF a.1 a.2 = true from va)
   have HU := Lib.hid (show validF b.1 b.2 = false from vb)
   have HC : Hid (cmpG a b = (0, 1)) := Lib.hid (by unfold cmpG; rw [if_neg fun q => by rw [vb] at q; exact absurd q.2 (by decide)])
   rw [HC.out]
   clear va vb
   go_enter Try.func12, Try.ntmps12
   go_upto_region 1 with (fail)
   have hF := FI.put (w.alloc (.cells #[.int .i64 a.1, .int .i64 a.2] 29)) b.1 b.2 29
   have hz : (w.alloc (.cells #[.int .i64 a.1, .int .i64 a.2] 29)).heap.size = w.heap.size + 1 := by simp
   rw [hz] at hF
   have hFF := Lib.hid hF
   have hW := (below_new w (.cells #[.int .i64 a.1, .int .i64 a.2] 29)).alloc (by simp) (.cells #[.int .i64 b.1, .int .i64 b.2] 29)
   have l0 : ((w.alloc (.cells #[.int .i64 a.1, .int .i64 a.2] 29)).alloc (.cells #[.int .i64 b.1, .int .i64 b.2] 29)).cell? ⟨w.heap.size, 0, none⟩ = some (.int .i64 a.1) := by simp [go_sem, World.cell?_alloc_past]
   have l1 : ((w.alloc (.cells #[.int .i64 a.1, .int .i64 a.2] 29)).alloc (.cells #[.int .i64 b.1, .int .i64 b.2] 29)).cell? ⟨w.heap.size, 1, none⟩ = some (.int .i64 a.2) := by simp [go_sem, World.cell?_alloc_past]
   clear hF hz
   generalize ((w.alloc (.cells #[.int .i64 a.1, .int .i64 a.2] 29)).alloc (.cells #[.int .i64 b.1, .int .i64 b.2] 29)) = W0 at *
   go_wp2_with (first
    | (go_at_call 25; (with_reducible refine (valid_any a.1 a.2 _).mono ?_); rintro e w1 ⟨rfl, hb1⟩; rw [HV.out]; obtain ⟨q0, q1, _⟩ := hFF.out.carry hb1)
    | (go_at_call 25; (with_reducible refine (valid_any b.1 b.2 _).mono ?_); rintro e w2 ⟨rfl, hb2⟩; rw [HU.out]))
   go_ret2
   exact ⟨rfl, hW.trans ((hb1.trans (hb2.mono hb1.size)).mono hW.size)⟩
  ·rw [cmpG_ok va vb]
   exact cmp_all a.1 a.2 b.1 b.2 va vb w
end Go.Proofs.Ytbgkgahmicepdaa
namespace Go.Proofs.Ytbgkgahmicepdaa
def timeL (L : List Pc) : Int × Int := ((pcg L (L.length - 1)).f0, (pcg L (L.length - 1)).f1)
theorem time_eq {d : Int} {m : Mv} {t : Int} (hg : givenP d m = 0) : timeP d m t = timeL (curveL d m.rise m.fall t) := by
 have hl := curveL_len d m.rise m.fall t
 unfold timeP
 rw [if_pos hg]
 unfold knotsL
 rw [knTo_len, knTo_at _ _ _ (by omega)]
 rfl
theorem MoveC.vT {L : List Pc} {d t : Int} (mc : MoveC L d t) : vF (timeL L) = true := (mc.ok.val (L.length - 1) (by have := mc.ok.pos; omega)).vf
theorem asc_from {Q : List QP} (h : Asc Q) (h0 : 0 < Q.length) : ∀ i (hi : i < Q.length), (Q[0]'h0).f ≤ Q[i].f := fun i => by
 induction i with
 | zero => exact fun _ => Rat.le_refl
 | succ i ih => exact fun hi => by have x := ih (by omega); have y := h i hi; grind
theorem MoveC.froms {L : List Pc} {d t : Int} (mc : MoveC L d t) : ∀ i, i < L.length → 0 ≤ (pcg L i).f0 := fun i hi => by
 have hp := mc.ok.pos
 have h := asc_from mc.ok.asc' (by rw [qL_len]; omega) i (by rw [qL_len]; exact hi)
 rw [qL_f, qL_f, mc.f0] at h
 have := (frq_le (a := (0, 1)) (b := ((pcg L i).f0, (pcg L i).f1)) (by decide) (den_pos (mc.ok.val i hi).vf)).1 h
 have e : 0 * (pcg L i).f1 ≤ (pcg L i).f0 * 1 := this
 omega
theorem MoveC.at_zero {L : List Pc} {d t : Int} (mc : MoveC L d t) : atP L (0, 1) = (0, 1, 0) := by
 have h := at_first mc.ok
 have a := mc.a0
 rw [mc.f0] at h
 rw [h]
 have a1 : (pcg L 0).a0 = 0 := congrArg Prod.fst a
 have a2 : (pcg L 0).a1 = 1 := congrArg Prod.snd a
 rw [a1, a2]
theorem MoveC.at_end {L : List Pc} {d t : Int} (mc : MoveC L d t) {x u : Int × Int} (vx : vF x = true) (vu : vF u = true) (h : fr x = fr (timeL L) + fr u) (u0 : 0 ≤ fr u) : atP L x = (d, 1, 0) := by
 have a := mc.an
 rw [at_last mc.ok vx vu mc.bn mc.cn h u0]
 have a1 : (pcg L (L.length - 1)).a0 = d := congrArg Prod.fst a
 have a2 : (pcg L (L.length - 1)).a1 = 1 := congrArg Prod.snd a
 rw [a1, a2]
theorem time_vF {d : Int} {m : Mv} {t : Int} (hg : givenP d m = 0) (ht : IsTop d m.spd m.rise m.fall t) : vF (timeP d m t) = true := by
 rw [time_eq hg]; exact (move_c hg ht).vT
theorem time_pos0 {d : Int} {m : Mv} {t : Int} (hg : givenP d m = 0) (ht : IsTop d m.spd m.rise m.fall t) : 0 ≤ (timeP d m t).1 := by
 rw [time_eq hg]
 have mc := move_c hg ht
 exact mc.froms _ (by have := mc.ok.pos; omega)
theorem lastF_time {d : Int} {m : Mv} {t : Int} (hg : givenP d m = 0) (ht : IsTop d m.spd m.rise m.fall t) : lastF (qL (curveL d m.rise m.fall t)) = fr (timeP d m t) := by
 rw [time_eq hg]; exact (move_c hg ht).last.2
structure Going (h : HouseR) (f : Int) (m : Mv) (t : Int) : Prop where
 mc : MoveC (curveL (mgD f m) m.rise m.fall t) (mgD f m) t
 ok : CurveOK (mpL f m t)
 q : qL (mpL f m t) = (qL (curveL (mgD f m) m.rise m.fall t)).map (mir (upB f m) (f : Rat))
 f0 : 0 ≤ f ∧ f ≤ 1048576
 t0 : 0 ≤ m.to ∧ m.to ≤ 1048576
 gd : givenP (mgD f m) m = 0
 top : IsTop (mgD f m) m.spd m.rise m.fall t
theorem going {h : HouseR} {f : Int} {m : Mv} {t : Int} (e : mgE h f m = 0) (ht : mgE h f m = 0 → IsTop (mgD f m) m.spd m.rise m.fall t) : Going h f m t := by
 obtain ⟨_, _, f0, f1, t0, t1, gd, _⟩ := mg_ok e
 exact ⟨move_c gd (ht e), mp_ok e (ht e), path_q ⟨by omega, by omega⟩ (curve_small gd (ht e)), ⟨f0, f1⟩, ⟨t0, t1⟩, gd, ht e⟩
section
variable {h : HouseR} {f : Int} {m : Mv} {t : Int}
theorem up_dist : (m.to : Rat) = if upB f m then (f : Rat) + (mgD f m : Rat) else (f : Rat) - (mgD f m : Rat) := by
 by_cases c : m.to < f
 ·have hu : upB f m = false := by unfold upB; rw [decide_eq_true c]; rfl
  have hd : mgD f m = f - m.to := by unfold mgD; rw [if_neg (by omega)]
  rw [hu, hd, Rat.intCast_sub]
  simp only [Bool.false_eq_true, if_false]
  grind
 ·have hu : upB f m = true := by unfold upB; rw [decide_eq_false c]; rfl
  have hd : mgD f m = m.to - f := by unfold mgD; rw [if_pos (by omega)]
  rw [hu, hd, Rat.intCast_sub]
  simp only [if_true]
  grind
theorem triple {p : Int × Int × Int} {a b : Int} (e : (p.1, p.2.1) = (a, b)) (z : p.2.2 = 0) : p = (a, b, 0) := by
 obtain ⟨x, y, w⟩ := p
 simp only [Prod.mk.injEq] at e z ⊢
 exact ⟨e.1, e.2, z⟩
theorem Going.qpos (g : Going h f m t) : 0 < (qL (curveL (mgD f m) m.rise m.fall t)).length := by rw [qL_len]; exact g.mc.ok.pos
theorem Going.val (g : Going h f m t) {x : Int × Int} (vx : vF x = true) (hx : (atP (mpL f m t) x).2.2 = 0) :
  fr ((atP (mpL f m t) x).1, (atP (mpL f m t) x).2.1) = (if upB f m then (f : Rat) + atL (qL (curveL (mgD f m) m.rise m.fall t)) (fr x) else (f : Rat) - atL (qL (curveL (mgD f m) m.rise m.fall t)) (fr x)) := by
 rw [atP_ok g.ok vx hx, g.q, (path_atL (upB f m) f (fr x) _ g.qpos).1]
theorem Going.slo (g : Going h f m t) {x : Int × Int} (vx : vF x = true) (hx : (slopeP (mpL f m t) x).2.2 = 0) :
  fr ((slopeP (mpL f m t) x).1, (slopeP (mpL f m t) x).2.1) = (if upB f m then slL (qL (curveL (mgD f m) m.rise m.fall t)) (fr x) else -slL (qL (curveL (mgD f m) m.rise m.fall t)) (fr x)) := by
 rw [slopeP_ok g.ok vx hx, g.q, (path_atL (upB f m) f (fr x) _ g.qpos).2]
theorem Going.vto (g : Going h f m t) : vF (m.to, 1) = true := valid_one (by have := g.t0; omega) (by have := g.t0; omega)
theorem Going.vfrom (g : Going h f m t) : vF (f, 1) = true := valid_one (by have := g.f0; omega) (by have := g.f0; omega)
theorem Going.zero (g : Going h f m t) : atP (mpL f m t) (0, 1) = (f, 1, 0) := by
 have hp := g.mc.ok.pos
 have hl : 0 < (mpL f m t).length := g.ok.pos
 have e0 : ((pcg (mpL f m t) 0).f0, (pcg (mpL f m t) 0).f1) = (0, 1) := by
  have a := g.q
  have b := congrArg (fun q : List QP => headF q) a
  have v := (g.ok.val 0 hl).vf
  refine frq_inj v (by decide) ?_
  have c : ((qL (mpL f m t))[0]'(by rw [qL_len]; exact hl)).f = fr ((pcg (mpL f m t) 0).f0, (pcg (mpL f m t) 0).f1) := qL_f _ _ _
  rw [← c]
  simp only [g.q, List.getElem_map, mir_f]
  rw [qL_f, g.mc.f0]
 have h1 := at_first g.ok
 rw [e0] at h1
 have hz : (atP (mpL f m t) (0, 1)).2.2 = 0 := by rw [h1]
 have v := g.val (x := (0, 1)) (by decide) hz
 have w := atP_valid g.ok (show vF (0, 1) = true by decide) hz
 have z : atL (qL (curveL (mgD f m) m.rise m.fall t)) (fr (0, 1)) = 0 := by
  have := atP_ok g.mc.ok (show vF (0, 1) = true by decide) (by rw [g.mc.at_zero])
  rw [← this, g.mc.at_zero]
  exact frq_zero
 rw [z] at v
 have e : ((atP (mpL f m t) (0, 1)).1, (atP (mpL f m t) (0, 1)).2.1) = (f, 1) := frq_inj w g.vfrom (by rw [v, frq_one]; split <;> grind)
 exact triple e hz
theorem Going.late (g : Going h f m t) {x : Int × Int} (vx : vF x = true) (hx : (atP (mpL f m t) x).2.2 = 0) (hl : fr (timeP (mgD f m) m t) ≤ fr x) : atP (mpL f m t) x = (m.to, 1, 0) := by
 have v := g.val vx hx
 have w := atP_valid g.ok vx hx
 rw [g.mc.up.after (by rw [lastF_time g.gd g.top]; exact hl), g.mc.last.1, ← up_dist] at v
 have e : ((atP (mpL f m t) x).1, (atP (mpL f m t) x).2.1) = (m.to, 1) := frq_inj w g.vto (by rw [v, frq_one])
 exact triple e hx
theorem Going.at_end (g : Going h f m t) : (atP (mpL f m t) (timeP (mgD f m) m t)).2.2 = 0 → atP (mpL f m t) (timeP (mgD f m) m t) = (m.to, 1, 0) := fun hx =>
 g.late (time_vF g.gd g.top) hx Rat.le_refl
theorem Going.on (g : Going h f m t) {x y : Int × Int} (vx : vF x = true) (vy : vF y = true) (xy : fr x ≤ fr y) (hx : (atP (mpL f m t) x).2.2 = 0) (hy : (atP (mpL f m t) y).2.2 = 0) :
  (f ≤ m.to → (f : Rat) ≤ fr ((atP (mpL f m t) x).1, (atP (mpL f m t) x).2.1) ∧ fr ((atP (mpL f m t) x).1, (atP (mpL f m t) x).2.1) ≤ fr ((atP (mpL f m t) y).1, (atP (mpL f m t) y).2.1) ∧ fr ((atP (mpL f m t) y).1, (atP (mpL f m t) y).2.1) ≤ (m.to : Rat)) ∧
  (m.to ≤ f → (m.to : Rat) ≤ fr ((atP (mpL f m t) y).1, (atP (mpL f m t) y).2.1) ∧ fr ((atP (mpL f m t) y).1, (atP (mpL f m t) y).2.1) ≤ fr ((atP (mpL f m t) x).1, (atP (mpL f m t) x).2.1) ∧ fr ((atP (mpL f m t) x).1, (atP (mpL f m t) x).2.1) ≤ (f : Rat)) := by
 have ex := g.val vx hx
 have ey := g.val vy hy
 rw [ex, ey]
 obtain ⟨r1, r2, _⟩ := g.mc.up.range (fr x)
 obtain ⟨s1, s2, _⟩ := g.mc.up.range (fr y)
 have mo := g.mc.up.mono xy
 have ud := up_dist (f := f) (m := m)
 have la := g.mc.last.1
 have fi := g.mc.first
 rw [la] at r2 s2
 rw [fi] at r1 s1
 clear ex ey la fi hx hy
 generalize atL (qL (curveL (mgD f m) m.rise m.fall t)) (fr x) = A at *
 generalize atL (qL (curveL (mgD f m) m.rise m.fall t)) (fr y) = B at *
 have dq : f = m.to → (mgD f m : Rat) = 0 := fun e => by
  have : mgD f m = 0 := by unfold mgD; split <;> omega
  rw [this]; rfl
 rcases Int.lt_or_le m.to f with c | c
 ·have hu : upB f m = false := by unfold upB; rw [decide_eq_true c]; rfl
  rw [hu] at ud ⊢
  simp only [Bool.false_eq_true, if_false] at ud ⊢
  exact ⟨fun q => absurd q (by omega), fun _ => by refine ⟨?_, ?_, ?_⟩ <;> grind⟩
 ·have hu : upB f m = true := by unfold upB; rw [decide_eq_false (by omega)]; rfl
  rw [hu] at ud ⊢
  simp only [if_true] at ud ⊢
  refine ⟨fun _ => by refine ⟨?_, ?_, ?_⟩ <;> grind, fun q => ?_⟩
  have z := dq (by omega)
  have a0 : A = 0 := by grind
  have b0 : B = 0 := by grind
  refine ⟨?_, ?_, ?_⟩ <;> grind
end
theorem mat_cases {h : HouseR} {f : Int} {m : Mv} {t : Int} (e : mgE h f m = 0) {x : Int × Int} (vx : vF x = true) :
  (x.1 < 0 ∧ matP h f m x t = (0, 0, 2)) ∨ (0 ≤ x.1 ∧ matP h f m x t = atP (mpL f m t) x ∧ ((atP (mpL f m t) x).2.2 = 0 ∨ (atP (mpL f m t) x).2.2 = 5)) := by
 obtain ⟨hB, vm, _⟩ := mg_ok e
 have hE : mtE h f m x = if x.1 < 0 then 2 else 0 := by unfold mtE; rw [if_pos ⟨hB, vm, vx⟩, if_pos e]
 unfold matP
 rw [hE]
 by_cases c : x.1 < 0
 ·left
  rw [if_pos c, if_neg (by decide)]
  exact ⟨c, rfl⟩
 ·right
  rw [if_neg c, if_pos rfl]
  exact ⟨by omega, rfl, atP_err vx⟩
theorem cmp_nle {x y : Int} (h : 0 ≤ cmpP x y) : y ≤ x := by
 unfold cmpP at h
 split at h
 ·omega
 ·split at h
  ·exact absurd h (by decide)
  ·omega
theorem cmp_nge {x y : Int} (h : cmpP x y ≤ 0) : x ≤ y := by
 rcases Int.lt_or_le y x with l | l
 ·unfold cmpP at h
  rw [if_neg (by omega), if_neg (by omega)] at h
  exact absurd h (by decide)
 ·exact l
end Go.Proofs.Ytbgkgahmicepdaa
namespace Go.Proofs.Ytbgkgahmicepdaa
open Go.RowKit Go.Shelf
attribute [local go_sem] Oper.semAt_some
theorem ex_set (a s : Option Addr) : setE (exH a s) exV = 0 ∧ setO (exH a s) exV = exS a := by
 have hI : setI (exH a s) exV = 0 := by rfl
 have hE : setE (exH a s) exV = 0 := by unfold setE; rw [if_pos ⟨exH_ok a s, by rfl⟩, hI, if_neg (by decide)]
 refine ⟨hE, ?_⟩
 unfold setO
 rw [if_pos hE, hI]
 rfl
theorem ex_e (a s : Option Addr) : mgE (exH a s) 0 exV = 0 := by
 unfold mgE
 rw [if_pos (ex_set a s).1, (ex_set a s).2, if_pos ⟨by rfl, by rfl⟩]
theorem ex_top : IsTop (mgD 0 exV) exV.spd exV.rise exV.fall 100 := ⟨by decide, by decide, by unfold Room; decide, .inl rfl⟩
theorem ex_end (a s : Option Addr) : endP (exH a s) 0 exV 100 = (23, 2) := by
 unfold endP
 rw [if_pos (ex_e a s)]
 decide +kernel
theorem ex_t (a s : Option Addr) : mtE (exH a s) 0 exV (2, 1) = 0 := by
 unfold mtE
 rw [if_pos ⟨exH_ok a s, by rfl, by decide⟩, if_pos (ex_e a s), if_neg (by decide)]
theorem ex_at (a s : Option Addr) : matP (exH a s) 0 exV (2, 1) 100 = (100, 1, 0) := by
 unfold matP
 rw [if_pos (ex_t a s)]
 decide +kernel
theorem ex_halt (a s : Option Addr) : haltP (exH a s) 0 exV (2, 1) 100 = (150, 1, 0) := by
 unfold haltP
 rw [if_pos (ex_t a s)]
 decide +kernel
noncomputable def awCode (n : Nat) : Code := ((Try.f7.body.bind (regionIn n)).getD .skip)
set_option maxRecDepth 100000 in
set_option maxHeartbeats 8000000 in
theorem awR3 {h : HouseR} {m : Mv} {A : Int × Int × Int} {Bh Bm : Nat} {W0 : World} {u3 u4 u5 u6 u7 u8 u9 u10 u11 u12 u13 u14 u15 u16 u17 u18 u19 u20 u21 u22 u23 u24 u25 u26 u27 u28 u29 u30 u31 u32 u33 u34 u35 u36 u37 u38 u39 u40 u41 u42 u43 u44 u45 u46 u47 u48 u49 u50 u51 u52 u53 u54 u55 u56 u57 : Value} {R : List Value} {K : Act → World → Prop} {Q0 : Exit → Act → World → Prop}
  (HC : Hid (∀ w : World, HouseIn w h → Calls Try.prog 10 #[.agg #[.string h.name, .int .i64 h.height, .slice h.sa h.sets.length h.sc, .slice h.ra h.roofs.length h.rc], .int .i64 0, .agg #[.string m.name, .int .i64 m.to, .int .i64 m.spd, .int .i64 m.rise, .int .i64 m.fall], .agg #[.int .i64 2, .int .i64 1]] w fun e w' => e = .returned (.tuple #[.agg #[.int .i64 A.1, .int .i64 A.2.1], .int .i64 A.2.2]) ∧ Below w.heap.size w w')) (HH : Hid (HouseIn W0 h)) (HX : Hid (∀ w', Below W0.heap.size W0 w' → (fun w' => w'.cell? ⟨Bh, 0, none⟩ = some (.string h.name) ∧ w'.cell? ⟨Bh, 1, none⟩ = some (.int .i64 h.height) ∧ w'.cell? ⟨Bh, 2, none⟩ = some (.slice h.sa h.sets.length h.sc) ∧ w'.cell? ⟨Bh, 3, none⟩ = some (.slice h.ra h.roofs.length h.rc) ∧ w'.cell? ⟨Bm, 0, none⟩ = some (.string m.name) ∧ w'.cell? ⟨Bm, 1, none⟩ = some (.int .i64 m.to) ∧ w'.cell? ⟨Bm, 2, none⟩ = some (.int .i64 m.spd) ∧ w'.cell? ⟨Bm, 3, none⟩ = some (.int .i64 m.rise) ∧ w'.cell? ⟨Bm, 4, none⟩ = some (.int .i64 m.fall)) w'))
  (hK : ∀ (v5 v6 v19 v20 v21 v22 v23 v24 v25 : Value) (wx : World), (∃ Bx : Nat, v5 = .pointer (some ⟨Bx, 0, none⟩) ∧ v6 = .int .i64 A.2.2 ∧ W0.heap.size ≤ Bx ∧ Below W0.heap.size W0 wx ∧ FI wx Bx A.1 A.2.1) → K ⟨List.toArray (.bool false :: .pointer (some ⟨Bh, 0, none⟩) :: .pointer (some ⟨Bm, 0, none⟩) :: u3 :: u4 :: v5 :: v6 :: u7 :: u8 :: u9 :: u10 :: u11 :: u12 :: u13 :: u14 :: u15 :: u16 :: u17 :: u18 :: v19 :: v20 :: v21 :: v22 :: v23 :: v24 :: v25 :: u26 :: u27 :: u28 :: u29 :: u30 :: u31 :: u32 :: u33 :: u34 :: u35 :: u36 :: u37 :: u38 :: u39 :: u40 :: u41 :: u42 :: u43 :: u44 :: u45 :: u46 :: u47 :: u48 :: u49 :: u50 :: u51 :: u52 :: u53 :: u54 :: u55 :: u56 :: u57 :: R), []⟩ wx) :
  Code.wp Try.prog (awCode 3) (Exit.then K Q0) ⟨List.toArray (.bool false :: .pointer (some ⟨Bh, 0, none⟩) :: .pointer (some ⟨Bm, 0, none⟩) :: u3 :: u4 :: u5 :: u6 :: u7 :: u8 :: u9 :: u10 :: u11 :: u12 :: u13 :: u14 :: u15 :: u16 :: u17 :: u18 :: u19 :: u20 :: u21 :: u22 :: u23 :: u24 :: u25 :: u26 :: u27 :: u28 :: u29 :: u30 :: u31 :: u32 :: u33 :: u34 :: u35 :: u36 :: u37 :: u38 :: u39 :: u40 :: u41 :: u42 :: u43 :: u44 :: u45 :: u46 :: u47 :: u48 :: u49 :: u50 :: u51 :: u52 :: u53 :: u54 :: u55 :: u56 :: u57 :: R), []⟩ W0 := by
 conv => arg 2; whnf
 refine wp_region_noPanic ?_
 refine wp_region_held_drew (S := fun w' => w'.cell? ⟨Bh, 0, none⟩ = some (.string h.name) ∧ w'.cell? ⟨Bh, 1, none⟩ = some (.int .i64 h.height) ∧ w'.cell? ⟨Bh, 2, none⟩ = some (.slice h.sa h.sets.length h.sc) ∧ w'.cell? ⟨Bh, 3, none⟩ = some (.slice h.ra h.roofs.length h.rc) ∧ w'.cell? ⟨Bm, 0, none⟩ = some (.string m.name) ∧ w'.cell? ⟨Bm, 1, none⟩ = some (.int .i64 m.to) ∧ w'.cell? ⟨Bm, 2, none⟩ = some (.int .i64 m.spd) ∧ w'.cell? ⟨Bm, 3, none⟩ = some (.int .i64 m.rise) ∧ w'.cell? ⟨Bm, 4, none⟩ = some (.int .i64 m.fall)) (by kernel_rfl) (HX.out _ (Below.refl _ _).drew) (fun hHeld => ?_)
 have hB0 := (Below.refl W0.heap.size W0).drew
 obtain ⟨w0, hw0⟩ : ∃ x, W0.drew = x := ⟨_, rfl⟩
 simp only [hw0] at hB0 hHeld ⊢
 clear hw0
 refine tkA 0 ?_
 simp only [Act.put, List.setIfInBounds_toArray, List.set_cons_zero, List.set_cons_succ]
 refine tkA 1 ?_
 simp only [Act.put, List.setIfInBounds_toArray, List.set_cons_zero, List.set_cons_succ]
 refine wpAnyH_ready (rs := [2, 7]) (by kernel_rfl) (by simp) ?_
 refine tkC (fun K hK => ?_) (tkC (fun K hK => ?_) (AllReadyH.nil))
 ·go_simp
  (go_at_call 11; go_split_ands; (with_reducible refine (lwhole_any 2 _).mono ?_); rintro e w1 ⟨rfl, hb1⟩)
  go_wp2_with fail
  have hB1 := hB0.trans (hb1.mono hB0.size)
  refine hK.out _ _ (HX.out _ hB1) (fun hHeld => ?_)
  clear hK K
  try simp only [Act.put, List.setIfInBounds_toArray, List.set_cons_zero, List.set_cons_succ]
  refine wpAnyH_ready (rs := [3, 7]) (by kernel_rfl) (by simp) ?_
  refine tkC (fun K hK => ?_) (tkC (fun K hK => ?_) (AllReadyH.nil))
  ·go_simp
   (go_at_call 10; go_split_ands; (with_reducible refine (HC.out _ (HH.out.grow (by with_reducible assumption))).mono ?_); rintro e w2 ⟨rfl, hb2⟩)
   go_wp2_with fail
   have hB2 := hB1.trans (hb2.mono hB1.size)
   refine hK.out _ _ (HX.out _ hB2) (fun hHeld => ?_)
   clear hK K
   try simp only [Act.put, List.setIfInBounds_toArray, List.set_cons_zero, List.set_cons_succ]
   refine tkA 4 ?_
   simp only [Act.put, List.setIfInBounds_toArray, List.set_cons_zero, List.set_cons_succ]
   refine tkA 5 ?_
   simp only [Act.put, List.setIfInBounds_toArray, List.set_cons_zero, List.set_cons_succ]
   refine tkA 6 ?_
   simp only [Act.put, List.setIfInBounds_toArray, List.set_cons_zero, List.set_cons_succ]
   refine wpAnyH_ready (rs := [7]) (by kernel_rfl) (by simp) ?_
   refine tkC (fun K hK => ?_) (AllReadyH.nil)
   rw [if_pos (by rfl)]
   go_split_ands
   go_wp2_with fail
   have hB3 := below_a (.cells #[.int .i64 0, .int .i64 0] 29) hB2
   have FBx := FI.new w2 29
   obtain ⟨Bx, hBx⟩ : ∃ b, w2.heap.size = b := ⟨_, rfl⟩
   have hloBx : W0.heap.size ≤ Bx := by have := hB2.size; omega
   simp only [hBx] at FBx ⊢
   generalize w2.alloc (.cells #[.int .i64 0, .int .i64 0] 29) = w3 at *
   refine hK.out _ _ (HX.out _ hB3) (fun hHeld => ?_)
   clear hK K
   try simp only [Act.put, List.setIfInBounds_toArray, List.set_cons_zero, List.set_cons_succ]
   have bltBx := FBx.2.2.2.2
   refine wpAnyH_ready (rs := [8]) (by kernel_rfl) (by simp) ?_
   refine tkC (fun K hK => ?_) (AllReadyH.nil)
   rw [if_pos (by rfl)]
   go_split_ands
   obtain ⟨fa, fb, fc, fd, fe⟩ := FBx
   go_wp2_with fail
   have hB4 := below_s ⟨Bx, 1, none⟩ (.int .i64 (A.2.1)) (below_s ⟨Bx, 0, none⟩ (.int .i64 (A.1)) hB3 hloBx) hloBx
   have FBx := FI.set ⟨fa, fb, fc, fd, fe⟩ (A.1) (A.2.1)
   clear fa fb fc fd fe
   generalize ((w3.setCell ⟨Bx, 0, none⟩ (.int .i64 (A.1))).setCell ⟨Bx, 1, none⟩ (.int .i64 (A.2.1))) = w4 at *
   refine hK.out _ _ (HX.out _ hB4) (fun hHeld => ?_)
   clear hK K
   try simp only [Act.put, List.setIfInBounds_toArray, List.set_cons_zero, List.set_cons_succ]
   have bltBx := FBx.2.2.2.2
   refine tkA 9 ?_
   simp only [Act.put, List.setIfInBounds_toArray, List.set_cons_zero, List.set_cons_succ]
   refine wpAnyH_done (by kernel_rfl) ?_ _
   have hB := hB4
   exact hK _ _ _ _ _ _ _ _ _ _ ⟨Bx, rfl, rfl, hloBx, hB, FBx⟩
  ·rw [if_pos (by rfl)]
   go_split_ands
   go_wp2_with fail
   have hB2 := below_a (.cells #[.int .i64 0, .int .i64 0] 29) hB1
   have FBx := FI.new w1 29
   obtain ⟨Bx, hBx⟩ : ∃ b, w1.heap.size = b := ⟨_, rfl⟩
   have hloBx : W0.heap.size ≤ Bx := by have := hB1.size; omega
   simp only [hBx] at FBx ⊢
   generalize w1.alloc (.cells #[.int .i64 0, .int .i64 0] 29) = w2 at *
   refine hK.out _ _ (HX.out _ hB2) (fun hHeld => ?_)
   clear hK K
   try simp only [Act.put, List.setIfInBounds_toArray, List.set_cons_zero, List.set_cons_succ]
   have bltBx := FBx.2.2.2.2
   refine wpAnyH_ready (rs := [3]) (by kernel_rfl) (by simp) ?_
   refine tkC (fun K hK => ?_) (AllReadyH.nil)
   go_simp
   (go_at_call 10; go_split_ands; (with_reducible refine (HC.out _ (HH.out.grow (by with_reducible assumption))).mono ?_); rintro e w3 ⟨rfl, hb3⟩)
   go_wp2_with fail
   have hB3 := hB2.trans (hb3.mono hB2.size)
   have FBx := FBx.carry hb3
   refine hK.out _ _ (HX.out _ hB3) (fun hHeld => ?_)
   clear hK K
   try simp only [Act.put, List.setIfInBounds_toArray, List.set_cons_zero, List.set_cons_succ]
   have bltBx := FBx.2.2.2.2
   refine tkA 4 ?_
   simp only [Act.put, List.setIfInBounds_toArray, List.set_cons_zero, List.set_cons_succ]
   refine tkA 5 ?_
   simp only [Act.put, List.setIfInBounds_toArray, List.set_cons_zero, List.set_cons_succ]
   refine tkA 6 ?_
   simp only [Act.put, List.setIfInBounds_toArray, List.set_cons_zero, List.set_cons_succ]
   refine wpAnyH_ready (rs := [8]) (by kernel_rfl) (by simp) ?_
   refine tkC (fun K hK => ?_) (AllReadyH.nil)
   rw [if_pos (by rfl)]
   go_split_ands
   obtain ⟨fa, fb, fc, fd, fe⟩ := FBx
   go_wp2_with fail
   have hB4 := below_s ⟨Bx, 1, none⟩ (.int .i64 (A.2.1)) (below_s ⟨Bx, 0, none⟩ (.int .i64 (A.1)) hB3 hloBx) hloBx
   have FBx := FI.set ⟨fa, fb, fc, fd, fe⟩ (A.1) (A.2.1)
   clear fa fb fc fd fe
   generalize ((w3.setCell ⟨Bx, 0, none⟩ (.int .i64 (A.1))).setCell ⟨Bx, 1, none⟩ (.int .i64 (A.2.1))) = w4 at *
   refine hK.out _ _ (HX.out _ hB4) (fun hHeld => ?_)
   clear hK K
   try simp only [Act.put, List.setIfInBounds_toArray, List.set_cons_zero, List.set_cons_succ]
   have bltBx := FBx.2.2.2.2
   refine tkA 9 ?_
   simp only [Act.put, List.setIfInBounds_toArray, List.set_cons_zero, List.set_cons_succ]
   refine wpAnyH_done (by kernel_rfl) ?_ _
   have hB := hB4
   exact hK _ _ _ _ _ _ _ _ _ _ ⟨Bx, rfl, rfl, hloBx, hB, FBx⟩
 ·rw [if_pos (by rfl)]
  go_split_ands
  go_wp2_with fail
  have hB1 := below_a (.cells #[.int .i64 0, .int .i64 0] 29) hB0
  have FBx := FI.new w0 29
  obtain ⟨Bx, hBx⟩ : ∃ b, w0.heap.size = b := ⟨_, rfl⟩
  have hloBx : W0.heap.size ≤ Bx := by have := hB0.size; omega
  simp only [hBx] at FBx ⊢
  generalize w0.alloc (.cells #[.int .i64 0, .int .i64 0] 29) = w1 at *
  refine hK.out _ _ (HX.out _ hB1) (fun hHeld => ?_)
  clear hK K
  try simp only [Act.put, List.setIfInBounds_toArray, List.set_cons_zero, List.set_cons_succ]
  have bltBx := FBx.2.2.2.2
  refine wpAnyH_ready (rs := [2]) (by kernel_rfl) (by simp) ?_
  refine tkC (fun K hK => ?_) (AllReadyH.nil)
  go_simp
  (go_at_call 11; go_split_ands; (with_reducible refine (lwhole_any 2 _).mono ?_); rintro e w2 ⟨rfl, hb2⟩)
  go_wp2_with fail
  have hB2 := hB1.trans (hb2.mono hB1.size)
  have FBx := FBx.carry hb2
  refine hK.out _ _ (HX.out _ hB2) (fun hHeld => ?_)
  clear hK K
  try simp only [Act.put, List.setIfInBounds_toArray, List.set_cons_zero, List.set_cons_succ]
  have bltBx := FBx.2.2.2.2
  refine wpAnyH_ready (rs := [3]) (by kernel_rfl) (by simp) ?_
  refine tkC (fun K hK => ?_) (AllReadyH.nil)
  go_simp
  (go_at_call 10; go_split_ands; (with_reducible refine (HC.out _ (HH.out.grow (by with_reducible assumption))).mono ?_); rintro e w3 ⟨rfl, hb3⟩)
  go_wp2_with fail
  have hB3 := hB2.trans (hb3.mono hB2.size)
  have FBx := FBx.carry hb3
  refine hK.out _ _ (HX.out _ hB3) (fun hHeld => ?_)
  clear hK K
  try simp only [Act.put, List.setIfInBounds_toArray, List.set_cons_zero, List.set_cons_succ]
  have bltBx := FBx.2.2.2.2
  refine tkA 4 ?_
  simp only [Act.put, List.setIfInBounds_toArray, List.set_cons_zero, List.set_cons_succ]
  refine tkA 5 ?_
  simp only [Act.put, List.setIfInBounds_toArray, List.set_cons_zero, List.set_cons_succ]
  refine tkA 6 ?_
  simp only [Act.put, List.setIfInBounds_toArray, List.set_cons_zero, List.set_cons_succ]
  refine wpAnyH_ready (rs := [8]) (by kernel_rfl) (by simp) ?_
  refine tkC (fun K hK => ?_) (AllReadyH.nil)
  rw [if_pos (by rfl)]
  go_split_ands
  obtain ⟨fa, fb, fc, fd, fe⟩ := FBx
  go_wp2_with fail
  have hB4 := below_s ⟨Bx, 1, none⟩ (.int .i64 (A.2.1)) (below_s ⟨Bx, 0, none⟩ (.int .i64 (A.1)) hB3 hloBx) hloBx
  have FBx := FI.set ⟨fa, fb, fc, fd, fe⟩ (A.1) (A.2.1)
  clear fa fb fc fd fe
  generalize ((w3.setCell ⟨Bx, 0, none⟩ (.int .i64 (A.1))).setCell ⟨Bx, 1, none⟩ (.int .i64 (A.2.1))) = w4 at *
  refine hK.out _ _ (HX.out _ hB4) (fun hHeld => ?_)
  clear hK K
  try simp only [Act.put, List.setIfInBounds_toArray, List.set_cons_zero, List.set_cons_succ]
  have bltBx := FBx.2.2.2.2
  refine tkA 9 ?_
  simp only [Act.put, List.setIfInBounds_toArray, List.set_cons_zero, List.set_cons_succ]
  refine wpAnyH_done (by kernel_rfl) ?_ _
  have hB := hB4
  exact hK _ _ _ _ _ _ _ _ _ _ ⟨Bx, rfl, rfl, hloBx, hB, FBx⟩
set_option maxRecDepth 100000 in
set_option maxHeartbeats 8000000 in
theorem awR4 {h : HouseR} {m : Mv} {A : Int × Int × Int} {Bh Bm : Nat} {W0 : World} {u3 u4 u5 u6 u7 u8 u9 u10 u11 u12 u13 u14 u15 u16 u17 u18 u19 u20 u21 u22 u23 u24 u25 u26 u27 u28 u29 u30 u31 u32 u33 u34 u35 u36 u37 u38 u39 u40 u41 u42 u43 u44 u45 u46 u47 u48 u49 u50 u51 u52 u53 u54 u55 u56 u57 : Value} {R : List Value} {K : Act → World → Prop} {Q0 : Exit → Act → World → Prop}
  (HC : Hid (∀ w : World, HouseIn w h → Calls Try.prog 13 #[.agg #[.string h.name, .int .i64 h.height, .slice h.sa h.sets.length h.sc, .slice h.ra h.roofs.length h.rc], .int .i64 0, .agg #[.string m.name, .int .i64 m.to, .int .i64 m.spd, .int .i64 m.rise, .int .i64 m.fall], .agg #[.int .i64 2, .int .i64 1]] w fun e w' => e = .returned (.tuple #[.agg #[.int .i64 A.1, .int .i64 A.2.1], .int .i64 A.2.2]) ∧ Below w.heap.size w w')) (HH : Hid (HouseIn W0 h)) (HX : Hid (∀ w', Below W0.heap.size W0 w' → (fun w' => w'.cell? ⟨Bh, 0, none⟩ = some (.string h.name) ∧ w'.cell? ⟨Bh, 1, none⟩ = some (.int .i64 h.height) ∧ w'.cell? ⟨Bh, 2, none⟩ = some (.slice h.sa h.sets.length h.sc) ∧ w'.cell? ⟨Bh, 3, none⟩ = some (.slice h.ra h.roofs.length h.rc) ∧ w'.cell? ⟨Bm, 0, none⟩ = some (.string m.name) ∧ w'.cell? ⟨Bm, 1, none⟩ = some (.int .i64 m.to) ∧ w'.cell? ⟨Bm, 2, none⟩ = some (.int .i64 m.spd) ∧ w'.cell? ⟨Bm, 3, none⟩ = some (.int .i64 m.rise) ∧ w'.cell? ⟨Bm, 4, none⟩ = some (.int .i64 m.fall)) w'))
  (hK : ∀ (v7 v8 v26 v27 v28 v29 v30 v31 v32 : Value) (wx : World), (∃ Bx : Nat, v7 = .pointer (some ⟨Bx, 0, none⟩) ∧ v8 = .int .i64 A.2.2 ∧ W0.heap.size ≤ Bx ∧ Below W0.heap.size W0 wx ∧ FI wx Bx A.1 A.2.1) → K ⟨List.toArray (.bool false :: .pointer (some ⟨Bh, 0, none⟩) :: .pointer (some ⟨Bm, 0, none⟩) :: u3 :: u4 :: u5 :: u6 :: v7 :: v8 :: u9 :: u10 :: u11 :: u12 :: u13 :: u14 :: u15 :: u16 :: u17 :: u18 :: u19 :: u20 :: u21 :: u22 :: u23 :: u24 :: u25 :: v26 :: v27 :: v28 :: v29 :: v30 :: v31 :: v32 :: u33 :: u34 :: u35 :: u36 :: u37 :: u38 :: u39 :: u40 :: u41 :: u42 :: u43 :: u44 :: u45 :: u46 :: u47 :: u48 :: u49 :: u50 :: u51 :: u52 :: u53 :: u54 :: u55 :: u56 :: u57 :: R), []⟩ wx) :
  Code.wp Try.prog (awCode 4) (Exit.then K Q0) ⟨List.toArray (.bool false :: .pointer (some ⟨Bh, 0, none⟩) :: .pointer (some ⟨Bm, 0, none⟩) :: u3 :: u4 :: u5 :: u6 :: u7 :: u8 :: u9 :: u10 :: u11 :: u12 :: u13 :: u14 :: u15 :: u16 :: u17 :: u18 :: u19 :: u20 :: u21 :: u22 :: u23 :: u24 :: u25 :: u26 :: u27 :: u28 :: u29 :: u30 :: u31 :: u32 :: u33 :: u34 :: u35 :: u36 :: u37 :: u38 :: u39 :: u40 :: u41 :: u42 :: u43 :: u44 :: u45 :: u46 :: u47 :: u48 :: u49 :: u50 :: u51 :: u52 :: u53 :: u54 :: u55 :: u56 :: u57 :: R), []⟩ W0 := by
 conv => arg 2; whnf
 refine wp_region_noPanic ?_
 refine wp_region_held_drew (S := fun w' => w'.cell? ⟨Bh, 0, none⟩ = some (.string h.name) ∧ w'.cell? ⟨Bh, 1, none⟩ = some (.int .i64 h.height) ∧ w'.cell? ⟨Bh, 2, none⟩ = some (.slice h.sa h.sets.length h.sc) ∧ w'.cell? ⟨Bh, 3, none⟩ = some (.slice h.ra h.roofs.length h.rc) ∧ w'.cell? ⟨Bm, 0, none⟩ = some (.string m.name) ∧ w'.cell? ⟨Bm, 1, none⟩ = some (.int .i64 m.to) ∧ w'.cell? ⟨Bm, 2, none⟩ = some (.int .i64 m.spd) ∧ w'.cell? ⟨Bm, 3, none⟩ = some (.int .i64 m.rise) ∧ w'.cell? ⟨Bm, 4, none⟩ = some (.int .i64 m.fall)) (by kernel_rfl) (HX.out _ (Below.refl _ _).drew) (fun hHeld => ?_)
 have hB0 := (Below.refl W0.heap.size W0).drew
 obtain ⟨w0, hw0⟩ : ∃ x, W0.drew = x := ⟨_, rfl⟩
 simp only [hw0] at hB0 hHeld ⊢
 clear hw0
 refine tkA 0 ?_
 simp only [Act.put, List.setIfInBounds_toArray, List.set_cons_zero, List.set_cons_succ]
 refine tkA 1 ?_
 simp only [Act.put, List.setIfInBounds_toArray, List.set_cons_zero, List.set_cons_succ]
 refine wpAnyH_ready (rs := [2, 7]) (by kernel_rfl) (by simp) ?_
 refine tkC (fun K hK => ?_) (tkC (fun K hK => ?_) (AllReadyH.nil))
 ·go_simp
  (go_at_call 11; go_split_ands; (with_reducible refine (lwhole_any 2 _).mono ?_); rintro e w1 ⟨rfl, hb1⟩)
  go_wp2_with fail
  have hB1 := hB0.trans (hb1.mono hB0.size)
  refine hK.out _ _ (HX.out _ hB1) (fun hHeld => ?_)
  clear hK K
  try simp only [Act.put, List.setIfInBounds_toArray, List.set_cons_zero, List.set_cons_succ]
  refine wpAnyH_ready (rs := [3, 7]) (by kernel_rfl) (by simp) ?_
  refine tkC (fun K hK => ?_) (tkC (fun K hK => ?_) (AllReadyH.nil))
  ·go_simp
   (go_at_call 13; go_split_ands; (with_reducible refine (HC.out _ (HH.out.grow (by with_reducible assumption))).mono ?_); rintro e w2 ⟨rfl, hb2⟩)
   go_wp2_with fail
   have hB2 := hB1.trans (hb2.mono hB1.size)
   refine hK.out _ _ (HX.out _ hB2) (fun hHeld => ?_)
   clear hK K
   try simp only [Act.put, List.setIfInBounds_toArray, List.set_cons_zero, List.set_cons_succ]
   refine tkA 4 ?_
   simp only [Act.put, List.setIfInBounds_toArray, List.set_cons_zero, List.set_cons_succ]
   refine tkA 5 ?_
   simp only [Act.put, List.setIfInBounds_toArray, List.set_cons_zero, List.set_cons_succ]
   refine tkA 6 ?_
   simp only [Act.put, List.setIfInBounds_toArray, List.set_cons_zero, List.set_cons_succ]
   refine wpAnyH_ready (rs := [7]) (by kernel_rfl) (by simp) ?_
   refine tkC (fun K hK => ?_) (AllReadyH.nil)
   rw [if_pos (by rfl)]
   go_split_ands
   go_wp2_with fail
   have hB3 := below_a (.cells #[.int .i64 0, .int .i64 0] 29) hB2
   have FBx := FI.new w2 29
   obtain ⟨Bx, hBx⟩ : ∃ b, w2.heap.size = b := ⟨_, rfl⟩
   have hloBx : W0.heap.size ≤ Bx := by have := hB2.size; omega
   simp only [hBx] at FBx ⊢
   generalize w2.alloc (.cells #[.int .i64 0, .int .i64 0] 29) = w3 at *
   refine hK.out _ _ (HX.out _ hB3) (fun hHeld => ?_)
   clear hK K
   try simp only [Act.put, List.setIfInBounds_toArray, List.set_cons_zero, List.set_cons_succ]
   have bltBx := FBx.2.2.2.2
   refine wpAnyH_ready (rs := [8]) (by kernel_rfl) (by simp) ?_
   refine tkC (fun K hK => ?_) (AllReadyH.nil)
   rw [if_pos (by rfl)]
   go_split_ands
   obtain ⟨fa, fb, fc, fd, fe⟩ := FBx
   go_wp2_with fail
   have hB4 := below_s ⟨Bx, 1, none⟩ (.int .i64 (A.2.1)) (below_s ⟨Bx, 0, none⟩ (.int .i64 (A.1)) hB3 hloBx) hloBx
   have FBx := FI.set ⟨fa, fb, fc, fd, fe⟩ (A.1) (A.2.1)
   clear fa fb fc fd fe
   generalize ((w3.setCell ⟨Bx, 0, none⟩ (.int .i64 (A.1))).setCell ⟨Bx, 1, none⟩ (.int .i64 (A.2.1))) = w4 at *
   refine hK.out _ _ (HX.out _ hB4) (fun hHeld => ?_)
   clear hK K
   try simp only [Act.put, List.setIfInBounds_toArray, List.set_cons_zero, List.set_cons_succ]
   have bltBx := FBx.2.2.2.2
   refine tkA 9 ?_
   simp only [Act.put, List.setIfInBounds_toArray, List.set_cons_zero, List.set_cons_succ]
   refine wpAnyH_done (by kernel_rfl) ?_ _
   have hB := hB4
   exact hK _ _ _ _ _ _ _ _ _ _ ⟨Bx, rfl, rfl, hloBx, hB, FBx⟩
  ·rw [if_pos (by rfl)]
   go_split_ands
   go_wp2_with fail
   have hB2 := below_a (.cells #[.int .i64 0, .int .i64 0] 29) hB1
   have FBx := FI.new w1 29
   obtain ⟨Bx, hBx⟩ : ∃ b, w1.heap.size = b := ⟨_, rfl⟩
   have hloBx : W0.heap.size ≤ Bx := by have := hB1.size; omega
   simp only [hBx] at FBx ⊢
   generalize w1.alloc (.cells #[.int .i64 0, .int .i64 0] 29) = w2 at *
   refine hK.out _ _ (HX.out _ hB2) (fun hHeld => ?_)
   clear hK K
   try simp only [Act.put, List.setIfInBounds_toArray, List.set_cons_zero, List.set_cons_succ]
   have bltBx := FBx.2.2.2.2
   refine wpAnyH_ready (rs := [3]) (by kernel_rfl) (by simp) ?_
   refine tkC (fun K hK => ?_) (AllReadyH.nil)
   go_simp
   (go_at_call 13; go_split_ands; (with_reducible refine (HC.out _ (HH.out.grow (by with_reducible assumption))).mono ?_); rintro e w3 ⟨rfl, hb3⟩)
   go_wp2_with fail
   have hB3 := hB2.trans (hb3.mono hB2.size)
   have FBx := FBx.carry hb3
   refine hK.out _ _ (HX.out _ hB3) (fun hHeld => ?_)
   clear hK K
   try simp only [Act.put, List.setIfInBounds_toArray, List.set_cons_zero, List.set_cons_succ]
   have bltBx := FBx.2.2.2.2
   refine tkA 4 ?_
   simp only [Act.put, List.setIfInBounds_toArray, List.set_cons_zero, List.set_cons_succ]
   refine tkA 5 ?_
   simp only [Act.put, List.setIfInBounds_toArray, List.set_cons_zero, List.set_cons_succ]
   refine tkA 6 ?_
   simp only [Act.put, List.setIfInBounds_toArray, List.set_cons_zero, List.set_cons_succ]
   refine wpAnyH_ready (rs := [8]) (by kernel_rfl) (by simp) ?_
   refine tkC (fun K hK => ?_) (AllReadyH.nil)
   rw [if_pos (by rfl)]
   go_split_ands
   obtain ⟨fa, fb, fc, fd, fe⟩ := FBx
   go_wp2_with fail
   have hB4 := below_s ⟨Bx, 1, none⟩ (.int .i64 (A.2.1)) (below_s ⟨Bx, 0, none⟩ (.int .i64 (A.1)) hB3 hloBx) hloBx
   have FBx := FI.set ⟨fa, fb, fc, fd, fe⟩ (A.1) (A.2.1)
   clear fa fb fc fd fe
   generalize ((w3.setCell ⟨Bx, 0, none⟩ (.int .i64 (A.1))).setCell ⟨Bx, 1, none⟩ (.int .i64 (A.2.1))) = w4 at *
   refine hK.out _ _ (HX.out _ hB4) (fun hHeld => ?_)
   clear hK K
   try simp only [Act.put, List.setIfInBounds_toArray, List.set_cons_zero, List.set_cons_succ]
   have bltBx := FBx.2.2.2.2
   refine tkA 9 ?_
   simp only [Act.put, List.setIfInBounds_toArray, List.set_cons_zero, List.set_cons_succ]
   refine wpAnyH_done (by kernel_rfl) ?_ _
   have hB := hB4
   exact hK _ _ _ _ _ _ _ _ _ _ ⟨Bx, rfl, rfl, hloBx, hB, FBx⟩
 ·rw [if_pos (by rfl)]
  go_split_ands
  go_wp2_with fail
  have hB1 := below_a (.cells #[.int .i64 0, .int .i64 0] 29) hB0
  have FBx := FI.new w0 29
  obtain ⟨Bx, hBx⟩ : ∃ b, w0.heap.size = b := ⟨_, rfl⟩
  have hloBx : W0.heap.size ≤ Bx := by have := hB0.size; omega
  simp only [hBx] at FBx ⊢
  generalize w0.alloc (.cells #[.int .i64 0, .int .i64 0] 29) = w1 at *
  refine hK.out _ _ (HX.out _ hB1) (fun hHeld => ?_)
  clear hK K
  try simp only [Act.put, List.setIfInBounds_toArray, List.set_cons_zero, List.set_cons_succ]
  have bltBx := FBx.2.2.2.2
  refine wpAnyH_ready (rs := [2]) (by kernel_rfl) (by simp) ?_
  refine tkC (fun K hK => ?_) (AllReadyH.nil)
  go_simp
  (go_at_call 11; go_split_ands; (with_reducible refine (lwhole_any 2 _).mono ?_); rintro e w2 ⟨rfl, hb2⟩)
  go_wp2_with fail
  have hB2 := hB1.trans (hb2.mono hB1.size)
  have FBx := FBx.carry hb2
  refine hK.out _ _ (HX.out _ hB2) (fun hHeld => ?_)
  clear hK K
  try simp only [Act.put, List.setIfInBounds_toArray, List.set_cons_zero, List.set_cons_succ]
  have bltBx := FBx.2.2.2.2
  refine wpAnyH_ready (rs := [3]) (by kernel_rfl) (by simp) ?_
  refine tkC (fun K hK => ?_) (AllReadyH.nil)
  go_simp
  (go_at_call 13; go_split_ands; (with_reducible refine (HC.out _ (HH.out.grow (by with_reducible assumption))).mono ?_); rintro e w3 ⟨rfl, hb3⟩)
  go_wp2_with fail
  have hB3 := hB2.trans (hb3.mono hB2.size)
  have FBx := FBx.carry hb3
  refine hK.out _ _ (HX.out _ hB3) (fun hHeld => ?_)
  clear hK K
  try simp only [Act.put, List.setIfInBounds_toArray, List.set_cons_zero, List.set_cons_succ]
  have bltBx := FBx.2.2.2.2
  refine tkA 4 ?_
  simp only [Act.put, List.setIfInBounds_toArray, List.set_cons_zero, List.set_cons_succ]
  refine tkA 5 ?_
  simp only [Act.put, List.setIfInBounds_toArray, List.set_cons_zero, List.set_cons_succ]
  refine tkA 6 ?_
  simp only [Act.put, List.setIfInBounds_toArray, List.set_cons_zero, List.set_cons_succ]
  refine wpAnyH_ready (rs := [8]) (by kernel_rfl) (by simp) ?_
  refine tkC (fun K hK => ?_) (AllReadyH.nil)
  rw [if_pos (by rfl)]
  go_split_ands
  obtain ⟨fa, fb, fc, fd, fe⟩ := FBx
  go_wp2_with fail
  have hB4 := below_s ⟨Bx, 1, none⟩ (.int .i64 (A.2.1)) (below_s ⟨Bx, 0, none⟩ (.int .i64 (A.1)) hB3 hloBx) hloBx
  have FBx := FI.set ⟨fa, fb, fc, fd, fe⟩ (A.1) (A.2.1)
  clear fa fb fc fd fe
  generalize ((w3.setCell ⟨Bx, 0, none⟩ (.int .i64 (A.1))).setCell ⟨Bx, 1, none⟩ (.int .i64 (A.2.1))) = w4 at *
  refine hK.out _ _ (HX.out _ hB4) (fun hHeld => ?_)
  clear hK K
  try simp only [Act.put, List.setIfInBounds_toArray, List.set_cons_zero, List.set_cons_succ]
  have bltBx := FBx.2.2.2.2
  refine tkA 9 ?_
  simp only [Act.put, List.setIfInBounds_toArray, List.set_cons_zero, List.set_cons_succ]
  refine wpAnyH_done (by kernel_rfl) ?_ _
  have hB := hB4
  exact hK _ _ _ _ _ _ _ _ _ _ ⟨Bx, rfl, rfl, hloBx, hB, FBx⟩
set_option maxRecDepth 100000 in
set_option maxHeartbeats 16000000 in
theorem awake_any (w : World) : Calls Try.prog 7 #[] w fun e w' => e = .returned (.bool true) ∧ Below w.heap.size w w' := by
 go_enter Try.func7, Try.ntmps7
 go_upto_region 2 with (go_at_call 19; (with_reducible refine (example_any _).mono ?_); rintro e w1 ⟨hx, hb1⟩; obtain ⟨a, s, rfl, hin⟩ := hx.out)
 clear hx
 have HEND : ∀ w : World, HouseIn w (exH a s) → Calls Try.prog 9 #[.agg #[.string (exH a s).name, .int .i64 (exH a s).height, .slice (exH a s).sa (exH a s).sets.length (exH a s).sc, .slice (exH a s).ra (exH a s).roofs.length (exH a s).rc], .int .i64 0, .agg #[.string exV.name, .int .i64 exV.to, .int .i64 exV.spd, .int .i64 exV.rise, .int .i64 exV.fall]] w fun e w' => e = .returned (.tuple #[.agg #[.int .i64 23, .int .i64 2], .int .i64 0]) ∧ Below w.heap.size w w' := fun w hh => by
  have := mend_any (exH a s) 0 exV 100 (fun _ => ex_top) w hh
  rwa [ex_end, ex_e] at this
 have HAT3 : ∀ w : World, HouseIn w (exH a s) → Calls Try.prog 10 #[.agg #[.string (exH a s).name, .int .i64 (exH a s).height, .slice (exH a s).sa (exH a s).sets.length (exH a s).sc, .slice (exH a s).ra (exH a s).roofs.length (exH a s).rc], .int .i64 0, .agg #[.string exV.name, .int .i64 exV.to, .int .i64 exV.spd, .int .i64 exV.rise, .int .i64 exV.fall], .agg #[.int .i64 2, .int .i64 1]] w fun e w' => e = .returned (.tuple #[.agg #[.int .i64 ((100, 1, 0) : Int × Int × Int).1, .int .i64 ((100, 1, 0) : Int × Int × Int).2.1], .int .i64 ((100, 1, 0) : Int × Int × Int).2.2]) ∧ Below w.heap.size w w' := fun w hh => by
  have := mat_any (exH a s) 0 exV (2, 1) 100 (fun _ => ex_top) w hh
  rwa [ex_at] at this
 have HHA3 : ∀ w : World, HouseIn w (exH a s) → Calls Try.prog 13 #[.agg #[.string (exH a s).name, .int .i64 (exH a s).height, .slice (exH a s).sa (exH a s).sets.length (exH a s).sc, .slice (exH a s).ra (exH a s).roofs.length (exH a s).rc], .int .i64 0, .agg #[.string exV.name, .int .i64 exV.to, .int .i64 exV.spd, .int .i64 exV.rise, .int .i64 exV.fall], .agg #[.int .i64 2, .int .i64 1]] w fun e w' => e = .returned (.tuple #[.agg #[.int .i64 ((150, 1, 0) : Int × Int × Int).1, .int .i64 ((150, 1, 0) : Int × Int × Int).2.1], .int .i64 ((150, 1, 0) : Int × Int × Int).2.2]) ∧ Below w.heap.size w w' := fun w hh => by
  have := mhalt_any (exH a s) 0 exV (2, 1) 100 (fun _ => ex_top) w hh
  rwa [ex_halt] at this
 have hat := (HouseAt.new w1 (exH a s) 25).carry (below_new _ (.cells #[.string exV.name, .int .i64 exV.to, .int .i64 exV.spd, .int .i64 exV.rise, .int .i64 exV.fall] 27))
 have mat := MvAt.new (w1.alloc (.cells #[.string (exH a s).name, .int .i64 (exH a s).height, .slice (exH a s).sa (exH a s).sets.length (exH a s).sc, .slice (exH a s).ra (exH a s).roofs.length (exH a s).rc] 25)) exV 27
 have hbn := (below_new w1 (.cells #[.string (exH a s).name, .int .i64 (exH a s).height, .slice (exH a s).sa (exH a s).sets.length (exH a s).sc, .slice (exH a s).ra (exH a s).roofs.length (exH a s).rc] 25)).alloc (by simp) (.cells #[.string exV.name, .int .i64 exV.to, .int .i64 exV.spd, .int .i64 exV.rise, .int .i64 exV.fall] 27)
 have hm1 : (w1.alloc (.cells #[.string (exH a s).name, .int .i64 (exH a s).height, .slice (exH a s).sa (exH a s).sets.length (exH a s).sc, .slice (exH a s).ra (exH a s).roofs.length (exH a s).rc] 25)).heap.size = w1.heap.size + 1 := by simp
 rw [hm1] at mat
 have HH := Lib.hid (hin.grow hbn)
 have hB := hb1.trans (hbn.mono hb1.size)
 clear hin hb1 hm1 hbn
 obtain ⟨Bh, hBh⟩ : ∃ b, w1.heap.size = b := ⟨_, rfl⟩
 simp only [hBh] at hat mat ⊢
 obtain ⟨Bm, hBm⟩ : ∃ b, Bh + 1 = b := ⟨_, rfl⟩
 simp only [hBm] at mat ⊢
 have HW : ∃ W : World, W = ((w1.alloc (.cells #[.string (exH a s).name, .int .i64 (exH a s).height, .slice (exH a s).sa (exH a s).sets.length (exH a s).sc, .slice (exH a s).ra (exH a s).roofs.length (exH a s).rc] 25)).alloc (.cells #[.string exV.name, .int .i64 exV.to, .int .i64 exV.spd, .int .i64 exV.rise, .int .i64 exV.fall] 27)) := ⟨_, rfl⟩
 obtain ⟨W0, hW0⟩ := HW
 rw [← hW0] at hat mat HH hB
 have hgoal := hW0.symm
 simp only [exH, exV, List.length_cons, List.length_nil] at hgoal
 rw [hgoal]
 clear hgoal hW0 hBh hBm
 obtain ⟨h, hh⟩ : ∃ h, exH a s = h := ⟨_, rfl⟩
 obtain ⟨m, hm⟩ : ∃ m, exV = m := ⟨_, rfl⟩
 rw [hh] at HEND HAT3 HHA3 hat HH
 rw [hm] at HEND HAT3 HHA3 mat
 clear hh hm
 have HE := Lib.hid HEND
 have HAT := Lib.hid hat
 have MAT := Lib.hid mat
 have HA3 := Lib.hid HAT3
 have HA4 := Lib.hid HHA3
 clear HEND HAT3 HHA3 hat mat
 obtain ⟨k0, k1, k2, k3⟩ := HAT.out
 obtain ⟨m0, m1, m2, m3, m4⟩ := MAT.out
 go_upto_region 3 with (go_at_call 9; (with_reducible refine (HE.out _ HH.out).mono ?_); rintro e w2 ⟨rfl, hbs⟩)
 clear k0 k1 k2 k3 m0 m1 m2 m3 m4
 replace HAT := Lib.hid (HAT.out.carry hbs)
 replace MAT := Lib.hid (MAT.out.carry hbs)
 replace HH := Lib.hid (HH.out.grow hbs)
 replace hB := hB.trans (hbs.mono hB.size)
 clear hbs
 have hbn := below_new w2 (.cells #[.int .i64 (23), .int .i64 (2)] 29)
 have hF := FI.put w2 (23) (2) 29
 replace HAT := Lib.hid (HAT.out.carry hbn)
 replace MAT := Lib.hid (MAT.out.carry hbn)
 replace HH := Lib.hid (HH.out.grow hbn)
 replace hB := hB.trans (hbn.mono hB.size)
 clear hbn
 obtain ⟨Be, hBq⟩ : ∃ b, w2.heap.size = b := ⟨_, rfl⟩
 simp only [hBq] at hF ⊢
 have FE := Lib.hid hF
 clear hF
 generalize w2.alloc (.cells #[.int .i64 (23), .int .i64 (2)] 29) = W3 at *
 clear hBq
 have HX : Hid (∀ w', Below W3.heap.size W3 w' → w'.cell? ⟨Bh, 0, none⟩ = some (.string h.name) ∧ w'.cell? ⟨Bh, 1, none⟩ = some (.int .i64 h.height) ∧ w'.cell? ⟨Bh, 2, none⟩ = some (.slice h.sa h.sets.length h.sc) ∧ w'.cell? ⟨Bh, 3, none⟩ = some (.slice h.ra h.roofs.length h.rc) ∧ w'.cell? ⟨Bm, 0, none⟩ = some (.string m.name) ∧ w'.cell? ⟨Bm, 1, none⟩ = some (.int .i64 m.to) ∧ w'.cell? ⟨Bm, 2, none⟩ = some (.int .i64 m.spd) ∧ w'.cell? ⟨Bm, 3, none⟩ = some (.int .i64 m.rise) ∧ w'.cell? ⟨Bm, 4, none⟩ = some (.int .i64 m.fall)) := Lib.hid fun w' hb => by
  obtain ⟨k0, k1, k2, k3⟩ := HAT.out.carry hb
  obtain ⟨m0, m1, m2, m3, m4⟩ := MAT.out.carry hb
  exact ⟨k0, k1, k2, k3, m0, m1, m2, m3, m4⟩
 refine awR3 (A := (100, 1, 0)) HA3 HH HX ?_
 intro v5 v6 v19 v20 v21 v22 v23 v24 v25 W4 hcut
 obtain ⟨Bx, rfl, rfl, _, hbs, FX⟩ := hcut
 clear HX HA3
 replace HAT := Lib.hid (HAT.out.carry hbs)
 replace MAT := Lib.hid (MAT.out.carry hbs)
 replace HH := Lib.hid (HH.out.grow hbs)
 replace FE := Lib.hid (FE.out.carry hbs)
 replace hB := hB.trans (hbs.mono hB.size)
 clear hbs
 have HFX := Lib.hid (show FI W4 Bx 100 1 from FX)
 clear FX
 go_upto_region 4 with (fail)
 have HX : Hid (∀ w', Below W4.heap.size W4 w' → w'.cell? ⟨Bh, 0, none⟩ = some (.string h.name) ∧ w'.cell? ⟨Bh, 1, none⟩ = some (.int .i64 h.height) ∧ w'.cell? ⟨Bh, 2, none⟩ = some (.slice h.sa h.sets.length h.sc) ∧ w'.cell? ⟨Bh, 3, none⟩ = some (.slice h.ra h.roofs.length h.rc) ∧ w'.cell? ⟨Bm, 0, none⟩ = some (.string m.name) ∧ w'.cell? ⟨Bm, 1, none⟩ = some (.int .i64 m.to) ∧ w'.cell? ⟨Bm, 2, none⟩ = some (.int .i64 m.spd) ∧ w'.cell? ⟨Bm, 3, none⟩ = some (.int .i64 m.rise) ∧ w'.cell? ⟨Bm, 4, none⟩ = some (.int .i64 m.fall)) := Lib.hid fun w' hb => by
  obtain ⟨k0, k1, k2, k3⟩ := HAT.out.carry hb
  obtain ⟨m0, m1, m2, m3, m4⟩ := MAT.out.carry hb
  exact ⟨k0, k1, k2, k3, m0, m1, m2, m3, m4⟩
 refine awR4 (A := (150, 1, 0)) HA4 HH HX ?_
 intro v7 v8 v26 v27 v28 v29 v30 v31 v32 W5 hcut
 obtain ⟨By, rfl, rfl, _, hbs, FY⟩ := hcut
 clear HX HA4
 replace HAT := Lib.hid (HAT.out.carry hbs)
 replace MAT := Lib.hid (MAT.out.carry hbs)
 replace HH := Lib.hid (HH.out.grow hbs)
 replace FE := Lib.hid (FE.out.carry hbs)
 replace HFX := Lib.hid (HFX.out.carry hbs)
 replace hB := hB.trans (hbs.mono hB.size)
 clear hbs
 have HFY := Lib.hid (show FI W5 By 150 1 from FY)
 clear FY
 go_upto_region 5 with (fail)
 have HS : Hid (∀ w', Below W5.heap.size W5 w' → (fun w' => Below W5.heap.size W5 w' ∧ w'.cell? ⟨Be, 0, none⟩ = some (.int .i64 23) ∧ w'.cell? ⟨Be, 1, none⟩ = some (.int .i64 2) ∧ w'.cell? ⟨Bx, 0, none⟩ = some (.int .i64 100) ∧ w'.cell? ⟨Bx, 1, none⟩ = some (.int .i64 1) ∧ w'.cell? ⟨By, 0, none⟩ = some (.int .i64 150) ∧ w'.cell? ⟨By, 1, none⟩ = some (.int .i64 1)) w') := Lib.hid fun w' hb => by
  obtain ⟨e0, e1, _⟩ := FE.out.carry hb
  obtain ⟨x0, x1, _⟩ := HFX.out.carry hb
  obtain ⟨y0, y1, _⟩ := HFY.out.carry hb
  exact ⟨hb, e0, e1, x0, x1, y0, y1⟩
 have hb0 := (Below.refl W5.heap.size W5).drew
 refine wp_region_held_drew (S := (fun w' => Below W5.heap.size W5 w' ∧ w'.cell? ⟨Be, 0, none⟩ = some (.int .i64 23) ∧ w'.cell? ⟨Be, 1, none⟩ = some (.int .i64 2) ∧ w'.cell? ⟨Bx, 0, none⟩ = some (.int .i64 100) ∧ w'.cell? ⟨Bx, 1, none⟩ = some (.int .i64 1) ∧ w'.cell? ⟨By, 0, none⟩ = some (.int .i64 150) ∧ w'.cell? ⟨By, 1, none⟩ = some (.int .i64 1))) (by kernel_rfl) (HS.out _ hb0) (fun hHeld => ?_)
 refine tkB 0 ?_
 simp only [Act.put, List.setIfInBounds_toArray, List.set_cons_zero, List.set_cons_succ, List.getElem_toArray, List.getElem_cons_zero]
 refine tkB 1 ?_
 simp only [Act.put, List.setIfInBounds_toArray, List.set_cons_zero, List.set_cons_succ, List.getElem_toArray, List.getElem_cons_succ, List.getElem_cons_zero]
 refine tkB 2 ?_
 simp only [Act.put, List.setIfInBounds_toArray, List.set_cons_zero, List.set_cons_succ, List.getElem_toArray, List.getElem_cons_succ, List.getElem_cons_zero]
 refine tkB 3 ?_
 simp only [Act.put, List.setIfInBounds_toArray, List.set_cons_zero, List.set_cons_succ, List.getElem_toArray, List.getElem_cons_succ, List.getElem_cons_zero]
 refine tkB 4 ?_
 simp only [Act.put, List.setIfInBounds_toArray, List.set_cons_zero, List.set_cons_succ, List.getElem_toArray, List.getElem_cons_succ, List.getElem_cons_zero]
 refine tkB 5 ?_
 simp only [Act.put, List.setIfInBounds_toArray, List.set_cons_zero, List.set_cons_succ, List.getElem_toArray, List.getElem_cons_succ, List.getElem_cons_zero]
 refine tkB 6 ?_
 simp only [Act.put, List.setIfInBounds_toArray, List.set_cons_zero, List.set_cons_succ, List.getElem_toArray, List.getElem_cons_succ, List.getElem_cons_zero]
 refine tkB 7 ?_
 simp only [Act.put, List.setIfInBounds_toArray, List.set_cons_zero, List.set_cons_succ, List.getElem_toArray, List.getElem_cons_succ, List.getElem_cons_zero]
 refine tkB 8 ?_
 simp only [Act.put, List.setIfInBounds_toArray, List.set_cons_zero, List.set_cons_succ, List.getElem_toArray, List.getElem_cons_succ, List.getElem_cons_zero]
 refine tkB 9 ?_
 simp only [Act.put, List.setIfInBounds_toArray, List.set_cons_zero, List.set_cons_succ, List.getElem_toArray, List.getElem_cons_succ, List.getElem_cons_zero]
 refine tkB 10 ?_
 simp only [Act.put, List.setIfInBounds_toArray, List.set_cons_zero, List.set_cons_succ, List.getElem_toArray, List.getElem_cons_succ, List.getElem_cons_zero]
 refine tkB 11 ?_
 simp only [Act.put, List.setIfInBounds_toArray, List.set_cons_zero, List.set_cons_succ, List.getElem_toArray, List.getElem_cons_succ, List.getElem_cons_zero]
 refine tkB 12 ?_
 simp only [Act.put, List.setIfInBounds_toArray, List.set_cons_zero, List.set_cons_succ, List.getElem_toArray, List.getElem_cons_succ, List.getElem_cons_zero]
 refine wpAnyH_ready (rs := [13]) (by kernel_rfl) (by simp) ?_
 refine AllReadyH.cons (o := _) rfl (fun K hK => ?_) AllReadyH.nil
 try simp only [List.getElem_toArray, List.getElem_cons_succ, List.getElem_cons_zero]
 go_simp
 (go_at_call 11; go_split_ands; (with_reducible refine (lwhole_any 100 _).mono ?_); rintro e x1 ⟨rfl, hx1⟩; have hb1 := hb0.trans (hx1.mono hb0.size))
 go_wp2_with fail
 refine hK.out _ _ (HS.out _ hb1) (fun hHeld => ?_)
 clear hK K
 try simp only [Act.put, List.setIfInBounds_toArray, List.set_cons_zero, List.set_cons_succ, List.getElem_toArray, List.getElem_cons_succ, List.getElem_cons_zero]
 refine tkB 14 ?_
 simp only [Act.put, List.setIfInBounds_toArray, List.set_cons_zero, List.set_cons_succ, List.getElem_toArray, List.getElem_cons_succ, List.getElem_cons_zero]
 refine tkB 15 ?_
 simp only [Act.put, List.setIfInBounds_toArray, List.set_cons_zero, List.set_cons_succ, List.getElem_toArray, List.getElem_cons_succ, List.getElem_cons_zero]
 refine tkB 16 ?_
 simp only [Act.put, List.setIfInBounds_toArray, List.set_cons_zero, List.set_cons_succ, List.getElem_toArray, List.getElem_cons_succ, List.getElem_cons_zero]
 refine tkB 17 ?_
 simp only [Act.put, List.setIfInBounds_toArray, List.set_cons_zero, List.set_cons_succ, List.getElem_toArray, List.getElem_cons_succ, List.getElem_cons_zero]
 refine tkB 18 ?_
 simp only [Act.put, List.setIfInBounds_toArray, List.set_cons_zero, List.set_cons_succ, List.getElem_toArray, List.getElem_cons_succ, List.getElem_cons_zero]
 refine tkB 19 ?_
 simp only [Act.put, List.setIfInBounds_toArray, List.set_cons_zero, List.set_cons_succ, List.getElem_toArray, List.getElem_cons_succ, List.getElem_cons_zero]
 refine tkB 20 ?_
 simp only [Act.put, List.setIfInBounds_toArray, List.set_cons_zero, List.set_cons_succ, List.getElem_toArray, List.getElem_cons_succ, List.getElem_cons_zero]
 refine tkB 21 ?_
 simp only [Act.put, List.setIfInBounds_toArray, List.set_cons_zero, List.set_cons_succ, List.getElem_toArray, List.getElem_cons_succ, List.getElem_cons_zero]
 refine wpAnyH_ready (rs := [22]) (by kernel_rfl) (by simp) ?_
 refine AllReadyH.cons (o := _) rfl (fun K hK => ?_) AllReadyH.nil
 try simp only [List.getElem_toArray, List.getElem_cons_succ, List.getElem_cons_zero]
 go_simp
 (go_at_call 11; go_split_ands; (with_reducible refine (lwhole_any 150 _).mono ?_); rintro e x2 ⟨rfl, hx2⟩; have hb2 := hb1.trans (hx2.mono hb1.size))
 go_wp2_with fail
 refine hK.out _ _ (HS.out _ hb2) (fun hHeld => ?_)
 clear hK K
 try simp only [Act.put, List.setIfInBounds_toArray, List.set_cons_zero, List.set_cons_succ, List.getElem_toArray, List.getElem_cons_succ, List.getElem_cons_zero]
 refine tkB 23 ?_
 simp only [Act.put, List.setIfInBounds_toArray, List.set_cons_zero, List.set_cons_succ, List.getElem_toArray, List.getElem_cons_succ, List.getElem_cons_zero]
 refine tkB 24 ?_
 simp only [Act.put, List.setIfInBounds_toArray, List.set_cons_zero, List.set_cons_succ, List.getElem_toArray, List.getElem_cons_succ, List.getElem_cons_zero]
 refine tkB 25 ?_
 simp only [Act.put, List.setIfInBounds_toArray, List.set_cons_zero, List.getElem_toArray, List.getElem_cons_succ, List.getElem_cons_zero]
 refine wpAnyH_done (by kernel_rfl) ?_ _
 go_wp2_with fail
 go_ret
 exact ⟨rfl, hB.trans (hb2.mono hB.size)⟩
end Go.Proofs.Ytbgkgahmicepdaa
namespace Go.Proofs.Ytbgkgahmicepdaa
open Go.ChangeShapes Go.WideShapes Go.ChangeAt Go.WideMaps Go.WideElems Go.RowKit
theorem own : ownKnob Try.prog.godebug = none := by kernel_rfl
theorem laidOut : laidOutB Try.prog = true := by kernel_rfl

section
variable {H : Type} {enc : TypeId × Value → H} {P : Program}
theorem post_of_below {f : Func} {s : ChangeSpec} {apart fresh handsOn again : Bool} {W W' : World} {args : Array Value} {v : Value} {ds gs : List (DataW H)} {before pa pv : List MemPlace}
  (hW : DataW.Whole enc P f.params.toList s.vars apart W args.toList ds gs before)
  (hres : ∀ (b : Nat) (sp : Nat → Bool) (hd : Bool), DataW.TrodAll enc P W' b sp hd f.resultTypes.toList (v.resultList f.resultTypes.size) (s.fn H (ds ++ gs)).results [])
  (hargs : ∀ sp : Nat → Bool, (∀ p ∈ before, sp p.block = true) → DataW.TrodAll enc P W' 0 sp true f.params.toList args.toList (s.fn H (ds ++ gs)).args pa)
  (hvars : ∀ sp : Nat → Bool, (∀ p ∈ before, sp p.block = true) → DataW.TrodVars enc P W' sp s.vars (s.fn H (ds ++ gs)).vars pv)
  (hps : before = pa ++ pv) (hb : Below W.heap.size W W')
  (hok : ∀ (j : Nat) (t : TypeId) (r : Value), f.resultTypes[j]? = some t → (v.resultList f.resultTypes.size)[j]? = some r → Value.okWide P W' .any 0 t r) :
  s.post enc P f apart fresh handsOn again W args v W' := by
 have hlt : ∀ p ∈ before, p.block < W.heap.size := fun p hp => hW.lt p hp
 have hold : ∀ p ∈ before, (fun b => decide (b < W.heap.size)) p.block = true := fun p hp => by simpa using hlt p hp
 refine ⟨ds, gs, before, [], pa, pv, hW, hres _ _ _, hargs _ hold, hvars _ hold, World.keptBut_mono (fun p hp => ⟨hp, ?_⟩) (hb.frame (· ∈ before)), fun _ => ?_⟩
 ·rw [hps, List.mem_append] at hp
  exact Or.inr hp
 ·obtain ⟨_, _, _, _, _, hz, hn⟩ := hW
  refine ⟨hok, _, _, ([] ++ pa) ++ pv, ⟨[] ++ pa, pv, trodAll_append (hargs _ (fun _ _ => rfl)) (hres _ _ _), hvars _ (fun _ _ => rfl), rfl, ?_, ?_⟩, ?_⟩
  ·intro b off hp
   have hin : MemPlace.cell b off ∈ before := by rw [hps]; simpa using hp
   rw [hb.frozen (hlt _ hin)]
   exact hz b off hin
  ·intro ha
   have := hn ha
   rw [hps] at this
   simpa using this
  ·intro p hp _
   rw [hps]
   simpa using hp

theorem trodAll_below (hl : laidOutB P = true) {W W' : World} (hb : Below W.heap.size W W') (sp : Nat → Bool) :
  ∀ {ts : List TypeId} {vs : List Value} {ds : List (DataW H)} {ps : List MemPlace}, (ts.all fun t => P.readableRec t && decide (t < P.types.size)) = true → DataW.TrodAll enc P W 0 (fun _ => true) true ts vs ds ps →
   (∀ x ∈ ps, x.block < W.heap.size) → (∀ x ∈ ps, sp x.block = true) → DataW.TrodAll enc P W' 0 sp true ts vs ds ps
 | [], [], [], _, _, h, _, _ => h
 | t :: ts, v :: vs, d :: ds, _, ht, ⟨p, q, h0, h1, rfl⟩, hlt, hsp => by
  simp only [List.all_cons, Bool.and_eq_true, decide_eq_true_eq] at ht
  exact ⟨p, q, WideElems.Trod_stays hl ht.1.1 ht.1.2 h0 (fun x hx => hb.same (hlt x (List.mem_append.2 (.inl hx)))) (fun x hx => hsp x (List.mem_append.2 (.inl hx))),
   trodAll_below hl hb sp (by simpa using ht.2) h1 (fun x hx => hlt x (List.mem_append.2 (.inr hx))) (fun x hx => hsp x (List.mem_append.2 (.inr hx))), rfl⟩
 | [], [], _ :: _, _, _, h, _, _ => h.elim
 | [], _ :: _, _, _, _, h, _, _ => h.elim
 | _ :: _, [], _, _, _, h, _, _ => h.elim
 | _ :: _, _ :: _, [], _, _, h, _, _ => h.elim

theorem law_post {f : Func} {s : ChangeSpec} {apart fresh handsOn again : Bool} {W W' : World} {args : Array Value} {ds gs : List (DataW H)} {before : List MemPlace} {tb : TypeId}
  (hl : laidOutB P = true) (hr : (f.params.toList.all fun t => P.readableRec t && decide (t < P.types.size)) = true) (hW : DataW.Whole enc P f.params.toList s.vars apart W args.toList ds gs before)
  (hv : s.vars = []) (hfn : s.fn H (ds ++ gs) = { results := [.lit (.bool true)], args := ds }) (ht : f.resultTypes = #[tb]) (hu : P.underlying tb = some .bool) (hb : Below W.heap.size W W') :
  s.post enc P f apart fresh handsOn again W args (.bool true) W' := by
 have hlt : ∀ p ∈ before, p.block < W.heap.size := fun p hp => hW.lt p hp
 have hW2 := hW
 obtain ⟨p, q, hA, hV, hpq, _, _⟩ := hW
 have hV' := hV
 rw [hv] at hV'
 obtain ⟨rfl, rfl⟩ := trodVars_none hV'
 have hpp : before = p := by rw [hpq, List.append_nil]
 refine post_of_below (pa := before) (pv := []) hW2 ?_ ?_ ?_ (by simp) hb ?_
 ·intro b sp hd
  rw [hfn, ht]
  exact trodAll_mk1 (shut_bool hu _)
 ·intro sp hsp
  rw [hfn]
  exact trodAll_below hl hb sp hr (by rw [hpp]; exact hA) hlt hsp
 ·intro sp hsp
  rw [hfn, hv]
  rfl
 ·intro j t r hj hrr
  rw [ht] at hj hrr
  exact ok_one ht rfl (okWide_bool_mk hu _) j t r (by rw [ht]; exact hj) (by rw [ht]; exact hrr)
end
end Go.Proofs.Ytbgkgahmicepdaa
namespace Go.Proofs.Ytbgkgahmicepdaa
open Go.ChangeShapes Go.WideShapes Go.ChangeAt Go.WideMaps Go.WideElems Go.RowKit Go.Deep
theorem flatMap_get {X : Type} (cells : X → List Value) (size : Nat) (hlen : ∀ r, (cells r).length = size) : ∀ (L : List X) (j : Nat) (u : Value), (L.flatMap cells)[j]? = some u → ∃ i k r, j = i * size + k ∧ L[i]? = some r ∧ (cells r)[k]? = some u
 | [], j, u, h => by simp at h
 | x :: l, j, u, h => by
  rw [List.flatMap_cons, List.getElem?_append] at h
  split at h
  ·exact ⟨0, j, x, by omega, rfl, h⟩
  ·next hj =>
   rw [hlen] at h hj
   obtain ⟨i, k, r, e, h1, h2⟩ := flatMap_get cells size hlen l _ u h
   exact ⟨i + 1, k, r, by rw [Nat.add_mul]; omega, h1, h2⟩

section
variable {H : Type} {enc : TypeId × Value → H} {P : Program} {w : World} {base : Nat} {spare : Nat → Bool} {held : Bool}
theorem open_rows {X : Type} [Inhabited X] (cells : X → List Value) (size : Nat) (Fit : X → Prop) (hsize : 0 < size) (hlen : ∀ r, (cells r).length = size) {t e : TypeId} (ht : P.underlying t = some (.slice e)) (hC : P.cellsOf e = size)
  (hel : ∀ n cs' y, cs'.length = size → DataW.trod enc P w base spare held n e cs' = some y → ∃ r, cs' = cells r ∧ Fit r) {fuel : Nat} {v : Value} {x : DataW H × List MemPlace} (h : DataW.trod enc P w base spare held fuel t [v] = some x) :
  ∃ (a : Option Addr) (cap : Nat) (L : List X), v = .slice a L.length cap ∧ L.length ≤ cap ∧ cap ≤ maxLen ∧ (a = none → cap = 0) ∧ (∀ r ∈ L, Fit r) ∧
   (0 < L.length → ∃ b off, a = some ⟨b, off, none⟩ ∧ b < w.heap.size ∧ ∀ j u, (L.flatMap cells)[j]? = some u → w.cell? ⟨b, off + j, none⟩ = some u) := by
 rcases open_slice ht h with ⟨hcs, _⟩ | ⟨a, len, cap, m, n, D, Pl, hcs, _, hl, hm, hmm, _, hi⟩
 ·simp only [List.cons.injEq, and_true] at hcs
  subst hcs
  exact ⟨none, 0, [], rfl, Nat.le_refl _, by unfold maxLen; omega, fun _ => rfl, (fun _ h => by cases h), fun h => absurd h (Nat.not_lt_zero _)⟩
 ·simp only [List.cons.injEq, and_true] at hcs
  subst hcs
  have hlm : len ≤ m := by rw [hmm]; split <;> omega
  have hex : ∀ i, ∃ r : X, i < len → Fit r ∧ ∀ k u, (cells r)[k]? = some u → w.cell? (a.add (i * size + k)) = some u := fun i => by
   by_cases h : i < len
   ·obtain ⟨cs', hc, ht'⟩ := hi i (by omega)
    rw [hC] at hc
    obtain ⟨_, hcl, hat⟩ := World.cells?_some hc
    obtain ⟨r, e, hf⟩ := hel n cs' _ hcl ht'
    refine ⟨r, fun _ => ⟨hf, fun k u hu => ?_⟩⟩
    rw [← e] at hu
    have hk : k < size := by
     have := (List.getElem?_eq_some_iff.1 hu).1
     omega
    rw [← Go.Deep.add_add, hat k hk, hu]
   ·exact ⟨default, fun h' => absurd h' h⟩
  obtain ⟨f, hf⟩ := Classical.axiomOfChoice hex
  refine ⟨some a, cap, (List.range len).map f, by simp, by simpa using hl, hm, (fun e => by cases e), ?_, ?_⟩
  ·intro r hr
   obtain ⟨i, hi', rfl⟩ := List.mem_map.1 hr
   exact (hf i (by simpa using hi')).1
  ·intro hpos
   have hpos' : 0 < len := by simpa using hpos
   have hcell : ∀ i k u, i < len → (cells (f i))[k]? = some u → w.cell? (a.add (i * size + k)) = some u := fun i k u h hu => (hf i h).2 k u hu
   have h0 : ∃ u, (cells (f 0))[0]? = some u := ⟨_, List.getElem?_eq_getElem (by rw [hlen]; exact hsize)⟩
   obtain ⟨u0, hu0⟩ := h0
   have hc0 := hcell 0 0 u0 hpos' hu0
   obtain ⟨b, off, spot⟩ := a
   have hspot : spot = none := by simpa [Addr.add] using World.cell?_spot hc0
   subst hspot
   refine ⟨b, off, rfl, ?_, fun j u hj => ?_⟩
   ·rw [Go.WideShapes.add_plain] at hc0
    exact World.block_lt_of_cell? w _ hc0
   ·obtain ⟨i, k, r, e, h1, h2⟩ := flatMap_get cells size hlen _ j u hj
    rw [List.getElem?_map] at h1
    have hil : i < len := by
     rcases Nat.lt_or_ge i len with l | l
     ·exact l
     ·rw [List.getElem?_eq_none (by simpa using l)] at h1; cases h1
    rw [List.getElem?_range hil] at h1
    obtain rfl : f i = r := by simpa using h1
    have := hcell i k u hil h2
    rw [Go.WideShapes.add_plain] at this
    rw [e]
    exact this
theorem elem_fields {e : TypeId} {fs : Array Field} {n : Nat} {cs' : List Value} {y : DataW H × List MemPlace} (he : P.underlying e = some (.struct fs)) (hone : oneCellFields P fs = true) (hl : cs'.length = fs.size) (h : DataW.trod enc P w base spare held n e cs' = some y) :
  ∃ m, ∀ (j : Nat) (f : Field), fs[j]? = some f → ∃ (v : Value) (z : DataW H × List MemPlace), cs'[j]? = some v ∧ DataW.trod enc P w base spare held m f.type [v] = some z := by
 obtain ⟨ys, n', hn', hy, hlen, hyl, hf⟩ := DataW.trod_struct he h
 refine ⟨n', fun j f hj => ?_⟩
 obtain ⟨ho, hk⟩ := hone_of hone j f hj
 have hjl : j < fs.size := (Array.getElem?_eq_some_iff.1 hj).1
 have hv : cs'[j]? = some (cs'[j]'(by omega)) := List.getElem?_eq_getElem (by omega)
 have h1 := hf j f hj
 rw [ho, hk] at h1
 have hone' : (cs'.drop j).take 1 = [cs'[j]'(by omega)] := by
  rw [List.drop_eq_getElem_cons (by omega)]
  rfl
 rw [hone'] at h1
 exact ⟨_, ys[j]'(by omega), hv, h1.trans (List.getElem?_eq_getElem (by omega))⟩
end
end Go.Proofs.Ytbgkgahmicepdaa
