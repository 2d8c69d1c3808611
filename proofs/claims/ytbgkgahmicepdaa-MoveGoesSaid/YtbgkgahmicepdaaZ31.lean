/-
  THE WALK of move.Halted.
-/
import Derived.BigRegion
import Derived.Test.YtbgkgahmicepdaaZ30
import Derived.Test.YtbgkgahmicepdaaZ24
import Derived.Test.YtbgkgahmicepdaaZ25
namespace Go.Proofs.Ytbgkgahmicepdaa
open Go.RowKit Go.Shelf
attribute [local go_sem] Oper.semAt_some
def haltX (v : Int × Int × Int) : Int × Int × Int := mulP v.1 v.2.1 v.1 v.2.1
def haltY (x : Int × Int × Int) (F : Int) : Int × Int × Int := mulP x.1 x.2.1 1 (2 * F)
def haltZ (up : Bool) (p y : Int × Int × Int) : Int × Int × Int := if up then addP p.1 p.2.1 y.1 y.2.1 else addP p.1 p.2.1 (-y.1) y.2.1
def haltQ (p v : Int × Int × Int) (F : Int) (up : Bool) : Int × Int × Int :=
 if p.2.2 = 0 then (if v.2.2 = 0 then (if (haltX v).2.2 = 0 then (if (haltY (haltX v) F).2.2 = 0 then haltZ up p (haltY (haltX v) F) else (0, 0, (haltY (haltX v) F).2.2)) else (0, 0, (haltX v).2.2)) else (0, 0, v.2.2)) else (0, 0, p.2.2)
theorem halt_keep {w W y : World} {Bx Bp Bz Bm : Nat} {x1 x2 p1 p2 y1 y2 : Int} {u : Value} (hB : Below w.heap.size w W) (hy : Below W.heap.size W y) (fx : FI W Bx x1 x2) (fp : FI W Bp p1 p2) (fz : FI W Bz 0 0) (hm : W.cell? ⟨Bm, 1, none⟩ = some u) (hl : Bm < W.heap.size) (n : w.heap.size ≤ Bx ∧ Bp ≠ Bx ∧ Bz ≠ Bx ∧ Bm ≠ Bx) :
  Below w.heap.size w ((y.setCell ⟨Bx, 0, none⟩ (.int .i64 y1)).setCell ⟨Bx, 1, none⟩ (.int .i64 y2)) ∧ FI ((y.setCell ⟨Bx, 0, none⟩ (.int .i64 y1)).setCell ⟨Bx, 1, none⟩ (.int .i64 y2)) Bx y1 y2 ∧ FI ((y.setCell ⟨Bx, 0, none⟩ (.int .i64 y1)).setCell ⟨Bx, 1, none⟩ (.int .i64 y2)) Bp p1 p2 ∧ FI ((y.setCell ⟨Bx, 0, none⟩ (.int .i64 y1)).setCell ⟨Bx, 1, none⟩ (.int .i64 y2)) Bz 0 0 ∧ ((y.setCell ⟨Bx, 0, none⟩ (.int .i64 y1)).setCell ⟨Bx, 1, none⟩ (.int .i64 y2)).cell? ⟨Bm, 1, none⟩ = some u :=
 ⟨below_s _ _ (below_s _ _ (hB.trans (hy.mono hB.size)) n.1) n.1, (fx.carry hy).set _ _, (fp.carry hy).other n.2.1 _ _, (fz.carry hy).other n.2.2.1 _ _, (two_other n.2.2.2 _ _ _).trans ((hy.cell (p := ⟨Bm, 1, none⟩) hl).trans hm)⟩
open Classical in
noncomputable def haltP (h : HouseR) (f : Int) (m : Mv) (T : Int × Int) (t : Int) : Int × Int × Int := if mtE h f m T = 0 then haltQ (atP (mpL f m t) T) (slopeP (mpL f m t) T) m.fall (decide (f < m.to)) else (0, 0, mtE h f m T)
set_option maxRecDepth 100000 in
set_option maxHeartbeats 32000000 in
theorem mhalt_any (h : HouseR) (f : Int) (m : Mv) (T : Int × Int) (t : Int) (ht : mgE h f m = 0 → IsTop (mgD f m) m.spd m.rise m.fall t) (w : World) (hh : HouseIn w h) :
  Calls Try.prog 13 #[.agg #[.string h.name, .int .i64 h.height, .slice h.sa h.sets.length h.sc, .slice h.ra h.roofs.length h.rc], .int .i64 f, .agg #[.string m.name, .int .i64 m.to, .int .i64 m.spd, .int .i64 m.rise, .int .i64 m.fall], .agg #[.int .i64 T.1, .int .i64 T.2]] w fun e w' => e = .returned (.tuple #[.agg #[.int .i64 (haltP h f m T t).1, .int .i64 (haltP h f m T t).2.1], .int .i64 (haltP h f m T t).2.2]) ∧ Below w.heap.size w w' := by
 have HTI : Hid (∀ w' : World, Below w.heap.size w w' → Calls Try.prog 23 #[.agg #[.string h.name, .int .i64 h.height, .slice h.sa h.sets.length h.sc, .slice h.ra h.roofs.length h.rc], .int .i64 f, .agg #[.string m.name, .int .i64 m.to, .int .i64 m.spd, .int .i64 m.rise, .int .i64 m.fall], .agg #[.int .i64 T.1, .int .i64 T.2]] w' fun e w2 => Hid (∃ v, e = .returned (.tuple #[v, .int .i64 (mtE h f m T)]) ∧ TimedV w2 h f m t T v) ∧ Below w'.heap.size w' w2) := Lib.hid fun w' hb => mtimed_any h f m T t ht w' (hh.grow hb)
 have HHT := Lib.hid ht
 clear hh ht
 obtain ⟨e, he⟩ : ∃ e, mtE h f m T = e := ⟨_, rfl⟩
 have HE := Lib.hid he
 obtain ⟨Z, hZ⟩ : ∃ Z, haltP h f m T t = Z := ⟨_, rfl⟩
 have HZ := Lib.hid hZ
 rw [hZ]
 have HD : Hid (haltP h f m T t = if e = 0 then haltQ (atP (mpL f m t) T) (slopeP (mpL f m t) T) m.fall (decide (f < m.to)) else (0, 0, e)) := Lib.hid (by unfold haltP; rw [he])
 clear he hZ
 go_enter Try.func13, Try.ntmps13
 go_upto_region 1 with (fail)
 have hat1 := (((HouseAt.new w h 25).carry (below_new (w.alloc (.cells #[.string h.name, .int .i64 h.height, .slice h.sa h.sets.length h.sc, .slice h.ra h.roofs.length h.rc] 25)) (.cells #[.string m.name, .int .i64 m.to, .int .i64 m.spd, .int .i64 m.rise, .int .i64 m.fall] 27))).carry (below_new ((w.alloc (.cells #[.string h.name, .int .i64 h.height, .slice h.sa h.sets.length h.sc, .slice h.ra h.roofs.length h.rc] 25)).alloc (.cells #[.string m.name, .int .i64 m.to, .int .i64 m.spd, .int .i64 m.rise, .int .i64 m.fall] 27)) (.cells #[.int .i64 T.1, .int .i64 T.2] 29))).carry (below_new (((w.alloc (.cells #[.string h.name, .int .i64 h.height, .slice h.sa h.sets.length h.sc, .slice h.ra h.roofs.length h.rc] 25)).alloc (.cells #[.string m.name, .int .i64 m.to, .int .i64 m.spd, .int .i64 m.rise, .int .i64 m.fall] 27)).alloc (.cells #[.int .i64 T.1, .int .i64 T.2] 29)) (.cells #[.int .i64 0, .int .i64 0] 29))
 have mat1 := ((MvAt.new (w.alloc (.cells #[.string h.name, .int .i64 h.height, .slice h.sa h.sets.length h.sc, .slice h.ra h.roofs.length h.rc] 25)) m 27).carry (below_new ((w.alloc (.cells #[.string h.name, .int .i64 h.height, .slice h.sa h.sets.length h.sc, .slice h.ra h.roofs.length h.rc] 25)).alloc (.cells #[.string m.name, .int .i64 m.to, .int .i64 m.spd, .int .i64 m.rise, .int .i64 m.fall] 27)) (.cells #[.int .i64 T.1, .int .i64 T.2] 29))).carry (below_new (((w.alloc (.cells #[.string h.name, .int .i64 h.height, .slice h.sa h.sets.length h.sc, .slice h.ra h.roofs.length h.rc] 25)).alloc (.cells #[.string m.name, .int .i64 m.to, .int .i64 m.spd, .int .i64 m.rise, .int .i64 m.fall] 27)).alloc (.cells #[.int .i64 T.1, .int .i64 T.2] 29)) (.cells #[.int .i64 0, .int .i64 0] 29))
 have tat1 := (FI.put ((w.alloc (.cells #[.string h.name, .int .i64 h.height, .slice h.sa h.sets.length h.sc, .slice h.ra h.roofs.length h.rc] 25)).alloc (.cells #[.string m.name, .int .i64 m.to, .int .i64 m.spd, .int .i64 m.rise, .int .i64 m.fall] 27)) T.1 T.2 29).carry (below_new (((w.alloc (.cells #[.string h.name, .int .i64 h.height, .slice h.sa h.sets.length h.sc, .slice h.ra h.roofs.length h.rc] 25)).alloc (.cells #[.string m.name, .int .i64 m.to, .int .i64 m.spd, .int .i64 m.rise, .int .i64 m.fall] 27)).alloc (.cells #[.int .i64 T.1, .int .i64 T.2] 29)) (.cells #[.int .i64 0, .int .i64 0] 29))
 have zat1 := FI.new (((w.alloc (.cells #[.string h.name, .int .i64 h.height, .slice h.sa h.sets.length h.sc, .slice h.ra h.roofs.length h.rc] 25)).alloc (.cells #[.string m.name, .int .i64 m.to, .int .i64 m.spd, .int .i64 m.rise, .int .i64 m.fall] 27)).alloc (.cells #[.int .i64 T.1, .int .i64 T.2] 29)) 29
 have hW0 := (((below_new w (.cells #[.string h.name, .int .i64 h.height, .slice h.sa h.sets.length h.sc, .slice h.ra h.roofs.length h.rc] 25)).alloc (by simp) (.cells #[.string m.name, .int .i64 m.to, .int .i64 m.spd, .int .i64 m.rise, .int .i64 m.fall] 27)).alloc (by simp <;> omega) (.cells #[.int .i64 T.1, .int .i64 T.2] 29)).alloc (by simp <;> omega) (.cells #[.int .i64 0, .int .i64 0] 29)
 have hm1 : (w.alloc (.cells #[.string h.name, .int .i64 h.height, .slice h.sa h.sets.length h.sc, .slice h.ra h.roofs.length h.rc] 25)).heap.size = w.heap.size + 1 := by simp
 have hm2 : ((w.alloc (.cells #[.string h.name, .int .i64 h.height, .slice h.sa h.sets.length h.sc, .slice h.ra h.roofs.length h.rc] 25)).alloc (.cells #[.string m.name, .int .i64 m.to, .int .i64 m.spd, .int .i64 m.rise, .int .i64 m.fall] 27)).heap.size = w.heap.size + 1 + 1 := by simp
 have hm3 : (((w.alloc (.cells #[.string h.name, .int .i64 h.height, .slice h.sa h.sets.length h.sc, .slice h.ra h.roofs.length h.rc] 25)).alloc (.cells #[.string m.name, .int .i64 m.to, .int .i64 m.spd, .int .i64 m.rise, .int .i64 m.fall] 27)).alloc (.cells #[.int .i64 T.1, .int .i64 T.2] 29)).heap.size = w.heap.size + 1 + 1 + 1 := by simp
 rw [hm1] at mat1
 rw [hm2] at tat1
 rw [hm3] at zat1
 generalize ((((w.alloc (.cells #[.string h.name, .int .i64 h.height, .slice h.sa h.sets.length h.sc, .slice h.ra h.roofs.length h.rc] 25)).alloc (.cells #[.string m.name, .int .i64 m.to, .int .i64 m.spd, .int .i64 m.rise, .int .i64 m.fall] 27)).alloc (.cells #[.int .i64 T.1, .int .i64 T.2] 29)).alloc (.cells #[.int .i64 0, .int .i64 0] 29)) = W0 at *
 have HAT := Lib.hid hat1
 have MAT := Lib.hid mat1
 have TAT := Lib.hid tat1
 have ZAT := Lib.hid zat1
 clear hat1 mat1 tat1 zat1 hm1 hm2 hm3
 obtain ⟨k0, k1, k2, k3⟩ := HAT.out
 obtain ⟨m0, m1, m2, m3, m4⟩ := MAT.out
 obtain ⟨t0, t1, _⟩ := TAT.out
 go_upto_region 2 with (go_at_call 23; (with_reducible refine (HTI.out _ hW0).mono ?_); rintro e w1 ⟨hv, hb1⟩; obtain ⟨v, rfl, htv⟩ := hv.out; rw [HE.out])
 have HTV := Lib.hid htv
 clear k0 k1 k2 k3 m0 m1 m2 m3 m4 t0 t1 htv hv
 have FZ := ZAT.out.carry hb1
 have FT := TAT.out.carry hb1
 have FM := MAT.out.carry hb1
 have hB := hW0.trans (hb1.mono hW0.size)
 by_cases z : e = 0
 ·subst z
  obtain ⟨Bc, rfl, hpc⟩ := HTV.out.1 HE.out
  obtain ⟨g0, vT, _⟩ := mt_ok HE.out
  have hok := mp_ok g0 (HHT.out g0)
  obtain ⟨f0, f1, tf⟩ : 0 ≤ f ∧ f ≤ 1048576 ∧ (1 ≤ m.fall ∧ m.fall ≤ 16384) := by
   obtain ⟨_, vm, f0, f1, _⟩ := mg_ok g0
   have := valid_bds vm
   exact ⟨f0, f1, by omega, by omega⟩
  obtain ⟨L, hL⟩ : ∃ L, mpL f m t = L := ⟨_, rfl⟩
  rw [hL] at hpc hok HD ⊢
  have HP := Lib.hid hpc
  obtain ⟨P, hP⟩ : ∃ P, atP L T = P := ⟨_, rfl⟩
  obtain ⟨V, hV⟩ : ∃ V, slopeP L T = V := ⟨_, rfl⟩
  have HPV : Hid (P.2.2 = 0 → vF (P.1, P.2.1) = true) := Lib.hid (by rw [← hP]; exact fun q => atP_valid hok vT q)
  have HVV : Hid (V.2.2 = 0 → vF (V.1, V.2.1) = true) := Lib.hid (by rw [← hV]; exact fun q => slopeP_valid hok vT q)
  have HQ : Hid (∀ w : World, Pcs w.heap.size w (some ⟨Bc, 0, none⟩) L → Calls Try.prog 24 #[.slice (some ⟨Bc, 0, none⟩) L.length L.length, .agg #[.int .i64 T.1, .int .i64 T.2]] w fun e w' => e = .returned (.tuple #[.agg #[.int .i64 P.1, .int .i64 P.2.1], .int .i64 P.2.2]) ∧ Below w.heap.size w w') := Lib.hid fun w hp => by
   have := qat_any L hok T (some ⟨Bc, 0, none⟩) L.length w hp
   rwa [hP] at this
  have HS : Hid (∀ w : World, Pcs w.heap.size w (some ⟨Bc, 0, none⟩) L → Calls Try.prog 18 #[.slice (some ⟨Bc, 0, none⟩) L.length L.length, .agg #[.int .i64 T.1, .int .i64 T.2]] w fun e w' => e = .returned (.tuple #[.agg #[.int .i64 V.1, .int .i64 V.2.1], .int .i64 V.2.2]) ∧ Below w.heap.size w w') := Lib.hid fun w hp => by
   have := qslopeAt_any L hok T (some ⟨Bc, 0, none⟩) L.length w hp
   rwa [hV] at this
  rw [hP, hV, if_pos rfl] at HD
  clear hpc g0 vT hok hL hP hV HTV HTI
  obtain ⟨t0, t1, _⟩ := FT
  go_upto_region 5 with (go_at_call 24; (with_reducible refine (HQ.out _ HP.out).mono ?_); rintro e w2 ⟨rfl, hbs⟩)
  clear t0 t1
  have FT := TAT.out.carry hb1
  replace FZ := FZ.carry hbs
  replace FT := FT.carry hbs
  replace FM := FM.carry hbs
  replace hB := hB.trans (hbs.mono hB.size)
  replace HP := Lib.hid (HP.out.grow hbs)
  clear hbs
  replace HP := Lib.hid (HP.out.grow (below_new w2 (.cells #[.int .i64 (P.1), .int .i64 (P.2.1)] 29)))
  have FBp := FI.put w2 (P.1) (P.2.1) 29
  have hbn := below_new w2 (.cells #[.int .i64 (P.1), .int .i64 (P.2.1)] 29)
  replace FZ := FZ.carry hbn
  replace FT := FT.carry hbn
  replace FM := FM.carry hbn
  replace hB := hB.trans (hbn.mono hB.size)
  clear hbn
  obtain ⟨Bp, hBp⟩ : ∃ b, w2.heap.size = b := ⟨_, rfl⟩
  simp only [hBp] at FBp ⊢
  generalize w2.alloc (.cells #[.int .i64 (P.1), .int .i64 (P.2.1)] 29) = W2 at *
  clear hBp
  by_cases zp : P.2.2 = 0
  ·have p1 : (P.2.2 != 0) = false := by simpa using zp
   have t0 := FT.1
   have t1 := FT.2.1
   go_upto_region 8 with (go_at_call 18; (with_reducible refine (HS.out _ HP.out).mono ?_); rintro e w3 ⟨rfl, hbs⟩)
   clear t0 t1 p1
   replace FZ := FZ.carry hbs
   replace FBp := FBp.carry hbs
   replace FM := FM.carry hbs
   replace hB := hB.trans (hbs.mono hB.size)
   clear hbs FT HP
   have FBv := FI.put w3 (V.1) (V.2.1) 29
   have hbn := below_new w3 (.cells #[.int .i64 (V.1), .int .i64 (V.2.1)] 29)
   replace FZ := FZ.carry hbn
   replace FBp := FBp.carry hbn
   replace FM := FM.carry hbn
   replace hB := hB.trans (hbn.mono hB.size)
   clear hbn
   obtain ⟨Bv, hBv⟩ : ∃ b, w3.heap.size = b := ⟨_, rfl⟩
   simp only [hBv] at FBv ⊢
   generalize w3.alloc (.cells #[.int .i64 (V.1), .int .i64 (V.2.1)] 29) = W3 at *
   clear hBv
   by_cases zv : V.2.2 = 0
   ·have p1 : (V.2.2 != 0) = false := by simpa using zv
    have vV := HVV.out zv
    have hX := mul_any V.1 V.2.1 V.1 V.2.1 vV vV
    obtain ⟨X, hXe⟩ : ∃ X, haltX V = X := ⟨_, rfl⟩
    rw [show mulP V.1 V.2.1 V.1 V.2.1 = X from hXe] at hX
    have HX := Lib.hid hX
    have HXV : Hid (X.2.2 = 0 → vF (X.1, X.2.1) = true) := Lib.hid (by rw [← hXe]; exact fun q => (mulP_ok (a := (V.1, V.2.1)) (b := (V.1, V.2.1)) (den_pos vV) (den_pos vV) q).1)
    have HXE := Lib.hid hXe
    clear hX vV hXe
    have t0 := FBv.1
    have t1 := FBv.2.1
    go_upto_region 11 with (go_at_call 29; (with_reducible refine (HX.out _).mono ?_); rintro e w4 ⟨rfl, hbs⟩)
    clear t0 t1 p1
    replace FZ := FZ.carry hbs
    replace FBp := FBp.carry hbs
    replace FM := FM.carry hbs
    replace hB := hB.trans (hbs.mono hB.size)
    clear hbs FBv
    have HBNE : w.heap.size ≤ w4.heap.size ∧ Bp ≠ w4.heap.size ∧ w.heap.size + 1 + 1 + 1 ≠ w4.heap.size ∧ w.heap.size + 1 ≠ w4.heap.size := ⟨hB.size, Nat.ne_of_lt FBp.2.2.2.2, Nat.ne_of_lt FZ.2.2.2.2, by have := FZ.2.2.2.2; omega⟩
    have FBx := FI.put w4 (X.1) (X.2.1) 29
    have hbn := below_new w4 (.cells #[.int .i64 (X.1), .int .i64 (X.2.1)] 29)
    replace FZ := FZ.carry hbn
    replace FBp := FBp.carry hbn
    replace FM := FM.carry hbn
    replace hB := hB.trans (hbn.mono hB.size)
    clear hbn
    obtain ⟨Bx, hBx⟩ : ∃ b, w4.heap.size = b := ⟨_, rfl⟩
    simp only [hBx] at FBx HBNE ⊢
    generalize w4.alloc (.cells #[.int .i64 (X.1), .int .i64 (X.2.1)] 29) = W4 at *
    clear hBx
    by_cases zx : X.2.2 = 0
    ·have p1 : (X.2.2 != 0) = false := by simpa using zx
     have vX := HXV.out zx
     have v2 : validF (2 * m.fall) 1 = true := (validF_iff _ _).2 ⟨by decide, by decide, by omega, by omega, by simp⟩
     have hY := divP_any X.1 X.2.1 (2 * m.fall) 1 vX v2 (by omega)
     obtain ⟨Y, hYe⟩ : ∃ Y, haltY X m.fall = Y := ⟨_, rfl⟩
     rw [show mulP X.1 X.2.1 1 (2 * m.fall) = Y from hYe] at hY
     have HY := Lib.hid hY
     have v3 : validF 1 (2 * m.fall) = true := (validF_iff _ _).2 ⟨by omega, by omega, by decide, by decide, by simp⟩
     have HYV : Hid (Y.2.2 = 0 → vF (Y.1, Y.2.1) = true) := Lib.hid (by rw [← hYe]; exact fun q => (mulP_ok (a := (X.1, X.2.1)) (b := (1, 2 * m.fall)) (den_pos vX) (den_pos (a := (1, 2 * m.fall)) v3) q).1)
     have HYE := Lib.hid hYe
     have w2 : IntKind.i64.wrap (2 * m.fall) = 2 * m.fall := IntWalk.i64_in _ (by omega)
     clear hY vX v2 v3 hYe
     go_upto_region 13 with (fail)
     have hbr : Below W4.heap.size W4 W4 := Below.refl _ _
     have HFX := Lib.hid FBx
     have HFM := Lib.hid FM
     have HFP := Lib.hid FBp
     have HFZ := Lib.hid FZ
     have HBN : Hid (w.heap.size + 1 < W4.heap.size ∧ w.heap.size ≤ Bx ∧ Bp ≠ Bx ∧ w.heap.size + 1 + 1 + 1 ≠ Bx ∧ w.heap.size + 1 ≠ Bx) := Lib.hid ⟨by have := FZ.2.2.2.2; omega, HBNE⟩
     have HBB := Lib.hid hB
     have HW4 := Lib.hid hB.size
     clear FZ FBp hB
     obtain ⟨x0, x1, x2, x3, x4⟩ := FBx
     obtain ⟨n0, n1, n2, n3, n4⟩ := FM
     go_region_with (first
      | (go_at_call 31; go_split_ands; (try rw [w2]); (with_reducible refine (mof_any (2 * m.fall) _).mono ?_); rintro e y1 ⟨rfl, hy1⟩; have hx1 : Below W4.heap.size W4 y1 := (by first | exact hbr.drew.trans hy1 | exact hbr.trans hy1); obtain ⟨x0, x1, x2, x3, x4⟩ := HFX.out.carry hx1)
      | (go_at_call 30; go_split_ands; (with_reducible refine (HY.out _).mono ?_); rintro e y2 ⟨rfl, hy2⟩; have hx2 : Below W4.heap.size W4 y2 := (by first | exact held_next hx1 hy2 | exact hx1.trans (hy2.mono hx1.size)); obtain ⟨x0, x1, x2, x3, x4⟩ := HFX.out.carry hx2))
     all_goals simp only [Act.put, List.setIfInBounds_toArray, List.set_cons_zero, List.set_cons_succ, List.getElem_toArray, List.getElem_cons_succ, List.getElem_cons_zero]
     all_goals
      obtain ⟨hB, FBx, FBp, FZ, MT⟩ := halt_keep (y1 := Y.1) (y2 := Y.2.1) HBB.out hx2 HFX.out HFP.out HFZ.out HFM.out.2.1 HBN.out.1 HBN.out.2
      clear x0 x1 x2 x3 x4
      generalize (y2.setCell ⟨Bx, 0, none⟩ (.int .i64 Y.1)).setCell ⟨Bx, 1, none⟩ (.int .i64 Y.2.1) = wx at *
      by_cases zy : Y.2.2 = 0
      ·have p1 : (Y.2.2 != 0) = false := by simpa using zy
       have vY := HYV.out zy
       have vP := HPV.out zp
       clear HFX HFM HFP HFZ HBN HBB HW4 hbr
       by_cases n : f < m.to
       ·have g := decide_eq_true n
        obtain ⟨R, hR⟩ : ∃ R, addP P.1 P.2.1 Y.1 Y.2.1 = R := ⟨_, rfl⟩
        have hA := add_all P.1 P.2.1 Y.1 Y.2.1 vP vY
        rw [hR] at hA
        have HA := Lib.hid hA
        have HR : Hid (Z = R) := Lib.hid (by rw [← HZ.out, HD.out]; unfold haltQ; rw [if_pos zp, if_pos zv, HXE.out, if_pos zx, HYE.out, if_pos zy, g]; exact hR)
        have HFZ2 := Lib.hid FZ
        clear hA hR vP vY n
        obtain ⟨x0, x1, _⟩ := FBx
        obtain ⟨b0, b1, _⟩ := FBp
        clear FZ
        go_wp2_with (go_at_call 32; (with_reducible refine (HA.out _).mono ?_); rintro e w6 ⟨rfl, hb6⟩; obtain ⟨q0, q1, q2, q3, q4⟩ := HFZ2.out.carry hb6)
        have l0 := (two_cells (v0 := .int .i64 R.1) (v1 := .int .i64 R.2.1) q0 q1).1
        have l1 := (two_cells (v0 := .int .i64 R.1) (v1 := .int .i64 R.2.1) q0 q1).2
        refine bodyPost_ret (v := .tuple #[.agg #[.int .i64 R.1, .int .i64 R.2.1], .int .i64 R.2.2]) (by simp [results, Try.results13, go_sem, l0, l1]) rfl ⟨by rw [HR.out], ?_⟩
        exact below_s _ _ (below_s _ _ (hB.trans (hb6.mono hB.size)) (show w.heap.size ≤ w.heap.size + 1 + 1 + 1 by omega)) (show w.heap.size ≤ w.heap.size + 1 + 1 + 1 by omega)
       ·have g := decide_eq_false n
        obtain ⟨R, hR⟩ : ∃ R, addP P.1 P.2.1 (-Y.1) Y.2.1 = R := ⟨_, rfl⟩
        have hA := sub_all P.1 P.2.1 Y.1 Y.2.1 vP vY
        rw [hR] at hA
        have HA := Lib.hid hA
        have HR : Hid (Z = R) := Lib.hid (by rw [← HZ.out, HD.out]; unfold haltQ; rw [if_pos zp, if_pos zv, HXE.out, if_pos zx, HYE.out, if_pos zy, g]; exact hR)
        have HFZ2 := Lib.hid FZ
        clear hA hR vP vY n
        obtain ⟨x0, x1, _⟩ := FBx
        obtain ⟨b0, b1, _⟩ := FBp
        clear FZ
        go_wp2_with (go_at_call 33; (with_reducible refine (HA.out _).mono ?_); rintro e w6 ⟨rfl, hb6⟩; obtain ⟨q0, q1, q2, q3, q4⟩ := HFZ2.out.carry hb6)
        have l0 := (two_cells (v0 := .int .i64 R.1) (v1 := .int .i64 R.2.1) q0 q1).1
        have l1 := (two_cells (v0 := .int .i64 R.1) (v1 := .int .i64 R.2.1) q0 q1).2
        refine bodyPost_ret (v := .tuple #[.agg #[.int .i64 R.1, .int .i64 R.2.1], .int .i64 R.2.2]) (by simp [results, Try.results13, go_sem, l0, l1]) rfl ⟨by rw [HR.out], ?_⟩
        exact below_s _ _ (below_s _ _ (hB.trans (hb6.mono hB.size)) (show w.heap.size ≤ w.heap.size + 1 + 1 + 1 by omega)) (show w.heap.size ≤ w.heap.size + 1 + 1 + 1 by omega)
      ·have p1 : (Y.2.2 != 0) = true := by simpa using zy
       have HR : Hid (Z = (0, 0, Y.2.2)) := Lib.hid (by rw [← HZ.out, HD.out]; unfold haltQ; rw [if_pos zp, if_pos zv, HXE.out, if_pos zx, HYE.out, if_neg zy])
       clear zy
       obtain ⟨q0, q1, q2, q3, q4⟩ := FZ
       go_wp2_with fail
       have l0 := (two_cells (v0 := .int .i64 0) (v1 := .int .i64 0) q0 q1).1
       have l1 := (two_cells (v0 := .int .i64 0) (v1 := .int .i64 0) q0 q1).2
       refine bodyPost_ret (v := .tuple #[.agg #[.int .i64 0, .int .i64 0], .int .i64 Y.2.2]) (by simp [results, Try.results13, go_sem, l0, l1]) rfl ⟨by rw [HR.out], ?_⟩
       exact below_s _ _ (below_s _ _ hB (show w.heap.size ≤ w.heap.size + 1 + 1 + 1 by omega)) (show w.heap.size ≤ w.heap.size + 1 + 1 + 1 by omega)
    ·have p1 : (X.2.2 != 0) = true := by simpa using zx
     have HR : Hid (Z = (0, 0, X.2.2)) := Lib.hid (by rw [← HZ.out, HD.out]; unfold haltQ; rw [if_pos zp, if_pos zv, HXE.out, if_neg zx])
     clear zx
     obtain ⟨q0, q1, q2, q3, q4⟩ := FZ
     go_wp2_with fail
     have l0 := (two_cells (v0 := .int .i64 0) (v1 := .int .i64 0) q0 q1).1
     have l1 := (two_cells (v0 := .int .i64 0) (v1 := .int .i64 0) q0 q1).2
     refine bodyPost_ret (v := .tuple #[.agg #[.int .i64 0, .int .i64 0], .int .i64 X.2.2]) (by simp [results, Try.results13, go_sem, l0, l1]) rfl ⟨by rw [HR.out], ?_⟩
     exact below_s _ _ (below_s _ _ hB (show w.heap.size ≤ w.heap.size + 1 + 1 + 1 by omega)) (show w.heap.size ≤ w.heap.size + 1 + 1 + 1 by omega)
   ·have p1 : (V.2.2 != 0) = true := by simpa using zv
    have HR : Hid (Z = (0, 0, V.2.2)) := Lib.hid (by rw [← HZ.out, HD.out]; unfold haltQ; rw [if_pos zp, if_neg zv])
    clear zv
    obtain ⟨q0, q1, q2, q3, q4⟩ := FZ
    go_wp2_with fail
    have l0 := (two_cells (v0 := .int .i64 0) (v1 := .int .i64 0) q0 q1).1
    have l1 := (two_cells (v0 := .int .i64 0) (v1 := .int .i64 0) q0 q1).2
    refine bodyPost_ret (v := .tuple #[.agg #[.int .i64 0, .int .i64 0], .int .i64 V.2.2]) (by simp [results, Try.results13, go_sem, l0, l1]) rfl ⟨by rw [HR.out], ?_⟩
    exact below_s _ _ (below_s _ _ hB (show w.heap.size ≤ w.heap.size + 1 + 1 + 1 by omega)) (show w.heap.size ≤ w.heap.size + 1 + 1 + 1 by omega)
  ·have p1 : (P.2.2 != 0) = true := by simpa using zp
   have HR : Hid (Z = (0, 0, P.2.2)) := Lib.hid (by rw [← HZ.out, HD.out]; unfold haltQ; rw [if_neg zp])
   clear zp
   obtain ⟨q0, q1, q2, q3, q4⟩ := FZ
   go_wp2_with fail
   have l0 := (two_cells (v0 := .int .i64 0) (v1 := .int .i64 0) q0 q1).1
   have l1 := (two_cells (v0 := .int .i64 0) (v1 := .int .i64 0) q0 q1).2
   refine bodyPost_ret (v := .tuple #[.agg #[.int .i64 0, .int .i64 0], .int .i64 P.2.2]) (by simp [results, Try.results13, go_sem, l0, l1]) rfl ⟨by rw [HR.out], ?_⟩
   exact below_s _ _ (below_s _ _ hB (show w.heap.size ≤ w.heap.size + 1 + 1 + 1 by omega)) (show w.heap.size ≤ w.heap.size + 1 + 1 + 1 by omega)
 ·have z1 : (e != 0) = true := by simpa using z
  have HR : Hid (Z = (0, 0, e)) := Lib.hid (by rw [← HZ.out, HD.out, if_neg z])
  obtain rfl := HTV.out.2 (by rw [HE.out]; exact z)
  clear z
  obtain ⟨q0, q1, q2, q3, q4⟩ := FZ
  go_wp2_with fail
  have l0 := (two_cells (v0 := .int .i64 0) (v1 := .int .i64 0) q0 q1).1
  have l1 := (two_cells (v0 := .int .i64 0) (v1 := .int .i64 0) q0 q1).2
  refine bodyPost_ret (v := .tuple #[.agg #[.int .i64 0, .int .i64 0], .int .i64 e]) (by simp [results, Try.results13, go_sem, l0, l1]) rfl ⟨by rw [HR.out], ?_⟩
  exact below_s _ _ (below_s _ _ hB (show w.heap.size ≤ w.heap.size + 1 + 1 + 1 by omega)) (show w.heap.size ≤ w.heap.size + 1 + 1 + 1 by omega)
end Go.Proofs.Ytbgkgahmicepdaa
