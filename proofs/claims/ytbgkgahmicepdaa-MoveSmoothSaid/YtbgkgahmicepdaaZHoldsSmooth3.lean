/-
  THE WALK of the law MoveSmooth.
-/
import Derived.Test.YtbgkgahmicepdaaZ1
import Derived.Test.YtbgkgahmicepdaaZ32
import Derived.Test.YtbgkgahmicepdaaZHoldsSmooth1
import Derived.Test.YtbgkgahmicepdaaZHoldsSmooth2
namespace Go.Proofs.Ytbgkgahmicepdaa
open Go.RowKit Go.Shelf
attribute [local go_sem] Oper.semAt_some
set_option maxRecDepth 100000 in
set_option maxHeartbeats 16000000 in
theorem lawsmooth_law (h : HouseR) (f : Int) (m : Mv) (s : Int × Int) (w : World) (hh : HouseIn0 w h) :
  Calls Try.prog 6 #[.agg #[.string h.name, .int .i64 h.height, .slice h.sa h.sets.length h.sc, .slice h.ra h.roofs.length h.rc], .int .i64 f, .agg #[.string m.name, .int .i64 m.to, .int .i64 m.spd, .int .i64 m.rise, .int .i64 m.fall], .agg #[.int .i64 s.1, .int .i64 s.2]] w fun e w' => e = .returned (.bool true) ∧ Below w.heap.size w w' := by
 obtain ⟨b, hb⟩ : ∃ b, fewB h m = b := ⟨_, rfl⟩
 have HFE : Hid (∀ w : World, HouseIn0 w h → Calls Try.prog 8 #[.agg #[.string h.name, .int .i64 h.height, .slice h.sa h.sets.length h.sc, .slice h.ra h.roofs.length h.rc], .agg #[.string m.name, .int .i64 m.to, .int .i64 m.spd, .int .i64 m.rise, .int .i64 m.fall]] w fun e w' => e = .returned (.bool b) ∧ Below w.heap.size w w') := Lib.hid fun w hh => by
  have := few_any h m w hh
  rwa [hb] at this
 cases b
 ·clear hb
  go_enter Try.func6, Try.ntmps6
  go_upto_region 1 with (fail)
  have hat1 := (((HouseAt.new w h 25).carry (below_new (w.alloc (.cells #[.string h.name, .int .i64 h.height, .slice h.sa h.sets.length h.sc, .slice h.ra h.roofs.length h.rc] 25)) (.cells #[.string m.name, .int .i64 m.to, .int .i64 m.spd, .int .i64 m.rise, .int .i64 m.fall] 27))).carry (below_new ((w.alloc (.cells #[.string h.name, .int .i64 h.height, .slice h.sa h.sets.length h.sc, .slice h.ra h.roofs.length h.rc] 25)).alloc (.cells #[.string m.name, .int .i64 m.to, .int .i64 m.spd, .int .i64 m.rise, .int .i64 m.fall] 27)) (.cells #[.int .i64 s.1, .int .i64 s.2] 29)))
  have mat1 := ((MvAt.new (w.alloc (.cells #[.string h.name, .int .i64 h.height, .slice h.sa h.sets.length h.sc, .slice h.ra h.roofs.length h.rc] 25)) m 27).carry (below_new ((w.alloc (.cells #[.string h.name, .int .i64 h.height, .slice h.sa h.sets.length h.sc, .slice h.ra h.roofs.length h.rc] 25)).alloc (.cells #[.string m.name, .int .i64 m.to, .int .i64 m.spd, .int .i64 m.rise, .int .i64 m.fall] 27)) (.cells #[.int .i64 s.1, .int .i64 s.2] 29)))
  have fat0 := (FI.put ((w.alloc (.cells #[.string h.name, .int .i64 h.height, .slice h.sa h.sets.length h.sc, .slice h.ra h.roofs.length h.rc] 25)).alloc (.cells #[.string m.name, .int .i64 m.to, .int .i64 m.spd, .int .i64 m.rise, .int .i64 m.fall] 27)) s.1 s.2 29)
  have hB := (((below_new w (.cells #[.string h.name, .int .i64 h.height, .slice h.sa h.sets.length h.sc, .slice h.ra h.roofs.length h.rc] 25)).alloc (by simp) (.cells #[.string m.name, .int .i64 m.to, .int .i64 m.spd, .int .i64 m.rise, .int .i64 m.fall] 27)).alloc (by simp <;> omega) (.cells #[.int .i64 s.1, .int .i64 s.2] 29))
  have HH := Lib.hid (hh.grow hB)
  have hm1 : (w.alloc (.cells #[.string h.name, .int .i64 h.height, .slice h.sa h.sets.length h.sc, .slice h.ra h.roofs.length h.rc] 25)).heap.size = w.heap.size + 1 := by simp
  rw [hm1] at mat1
  have hm2 : ((w.alloc (.cells #[.string h.name, .int .i64 h.height, .slice h.sa h.sets.length h.sc, .slice h.ra h.roofs.length h.rc] 25)).alloc (.cells #[.string m.name, .int .i64 m.to, .int .i64 m.spd, .int .i64 m.rise, .int .i64 m.fall] 27)).heap.size = w.heap.size + 1 + 1 := by simp
  rw [hm2] at fat0
  clear hm1 hm2
  generalize (((w.alloc (.cells #[.string h.name, .int .i64 h.height, .slice h.sa h.sets.length h.sc, .slice h.ra h.roofs.length h.rc] 25)).alloc (.cells #[.string m.name, .int .i64 m.to, .int .i64 m.spd, .int .i64 m.rise, .int .i64 m.fall] 27)).alloc (.cells #[.int .i64 s.1, .int .i64 s.2] 29)) = W0 at *
  have HAT := Lib.hid hat1
  have MAT := Lib.hid mat1
  have SAT := Lib.hid fat0
  clear hat1 mat1 fat0
  go_upto_region 3 with (go_at_call 7; (with_reducible refine (awake_any _).mono ?_); rintro e w1 ⟨rfl, hbs⟩)
  replace HAT := Lib.hid (HAT.out.carry hbs)
  replace MAT := Lib.hid (MAT.out.carry hbs)
  replace SAT := Lib.hid (SAT.out.carry hbs)
  replace HH := Lib.hid (HH.out.grow hbs)
  replace hB := hB.trans (hbs.mono hB.size)
  clear hbs
  obtain ⟨k0, k1, k2, k3⟩ := HAT.out
  obtain ⟨m0, m1, m2, m3, m4⟩ := MAT.out
  go_wp2_with (go_at_call 8; (with_reducible refine (HFE.out _ HH.out).mono ?_); rintro e w2 ⟨rfl, hbs⟩)
  go_ret
  exact ⟨rfl, hB.trans (hbs.mono hB.size)⟩
 ·have hh1 := few_in hh hb
  clear hb hh
  obtain ⟨t, ht⟩ := top_some35 h f m
  have HPA := Lib.hid (mpath_any h f m t ht)
  by_cases e0 : mgE h f m = 0
  ·have g := going e0 ht
   rw [e0] at HPA
   have HE0 := Lib.hid e0
   have HG := Lib.hid g
   obtain ⟨L, hL⟩ : ∃ L, mpL f m t = L := ⟨_, rfl⟩
   have hok := g.ok
   have hsm := g.smooth
   rw [hL] at hok hsm
   have HPV : Hid (∀ w' v, PathV w' h f m t v → ∃ b, v = .slice (some ⟨b, 0, none⟩) L.length L.length ∧ Pcs w'.heap.size w' (some ⟨b, 0, none⟩) L) := Lib.hid fun w' v hv => by
    have := hv.1 HE0.out
    rwa [hL] at this
   have HVA := Lib.hid (fun (b : Nat) (w : World) (hL : Pcs w.heap.size w (some ⟨b, 0, none⟩) L) => qvalid_yes L hok (some ⟨b, 0, none⟩) L.length w hL)
   obtain ⟨P, hP⟩ : ∃ P, timeP (mgD f m) m t = P := ⟨_, rfl⟩
   have HE1 : Hid (∀ w : World, HouseIn w h → Calls Try.prog 9 #[.agg #[.string h.name, .int .i64 h.height, .slice h.sa h.sets.length h.sc, .slice h.ra h.roofs.length h.rc], .int .i64 f, .agg #[.string m.name, .int .i64 m.to, .int .i64 m.spd, .int .i64 m.rise, .int .i64 m.fall]] w fun e w' => e = .returned (.tuple #[.agg #[.int .i64 P.1, .int .i64 P.2], .int .i64 0]) ∧ Below w.heap.size w w') := Lib.hid fun w hh => by
    have := mend_any h f m t ht w hh
    rwa [HE0.out, show endP h f m t = P by unfold endP; rw [if_pos HE0.out, hP]] at this
   have HE2 : Hid (∀ w : World, HouseIn w h → Calls Try.prog 9 #[.agg #[.string h.name, .int .i64 h.height, .slice h.sa h.sets.length h.sc, .slice h.ra h.roofs.length h.rc], .int .i64 m.to, .agg #[.string m.name, .int .i64 f, .int .i64 m.spd, .int .i64 m.fall, .int .i64 m.rise]] w fun e w' => e = .returned (.tuple #[.agg #[.int .i64 P.1, .int .i64 P.2], .int .i64 0]) ∧ Below w.heap.size w w') := Lib.hid fun w hh => by
    have := mend_any h m.to (backM f m) t (fun _ => back_top HG.out) w hh
    rwa [back_e HE0.out, show endP h m.to (backM f m) t = P by unfold endP; rw [if_pos (back_e HE0.out), back_time HG.out HE0.out, hP]] at this
   obtain ⟨V, hV⟩ : ∃ V, slopeP L s = V := ⟨_, rfl⟩
   have HSL : Hid (∀ (b : Nat) (w : World), Pcs w.heap.size w (some ⟨b, 0, none⟩) L → Calls Try.prog 18 #[.slice (some ⟨b, 0, none⟩) L.length L.length, .agg #[.int .i64 s.1, .int .i64 s.2]] w fun e w' => e = .returned (.tuple #[.agg #[.int .i64 V.1, .int .i64 V.2.1], .int .i64 V.2.2]) ∧ Below w.heap.size w w') := Lib.hid fun b w hp => by
    have := qslopeAt_any L hok s (some ⟨b, 0, none⟩) L.length w hp
    rwa [hV] at this
   have HVS : Hid (V.2.2 = 0 → vF (V.1, V.2.1) = true ∧ -m.spd * V.2.1 ≤ V.1 * 1 ∧ V.1 * 1 ≤ m.spd * V.2.1) := Lib.hid fun z => by
    have vs : vF s = true := by
     cases c : vF s
     ·rw [← hV] at z; unfold slopeP at z; rw [c] at z; cases z
     ·rfl
    have := HG.out.slope vs (by rw [hL, hV]; exact z)
    rwa [hL, hV] at this
   obtain ⟨Z, hZ⟩ : ∃ Z, smoothP L = Z := ⟨_, rfl⟩
   have HSM : Hid (∀ (b : Nat) (w : World), Pcs w.heap.size w (some ⟨b, 0, none⟩) L → Calls Try.prog 16 #[.slice (some ⟨b, 0, none⟩) L.length L.length] w fun e w' => e = .returned (.tuple #[.bool Z.1, .int .i64 Z.2]) ∧ Below w.heap.size w w') := Lib.hid fun b w hp => by
    have := qsmooth_any L hok (some ⟨b, 0, none⟩) L.length w hp
    rwa [hZ] at this
   have hze : Z.2 = 0 ∨ Z.2 = 5 := by rw [← hZ]; exact smooth_err L
   rw [hZ] at hsm
   obtain ⟨z1, z2⟩ := Z
   simp only at HSM hze hsm
   obtain ⟨_, vm, _⟩ := mg_ok e0
   obtain ⟨V0, V1, _⟩ := valid_bds vm
   have wn : IntKind.i64.wrap (-m.spd) = -m.spd := IntWalk.i64_in _ (by omega)
   have HC1 : Hid (V.2.2 = 0 → ∃ C, decide (C < 0) = false ∧ ∀ w : World, Calls Try.prog 12 #[.agg #[.int .i64 V.1, .int .i64 V.2.1], .agg #[.int .i64 (-m.spd), .int .i64 1]] w fun e w' => e = .returned (.tuple #[.int .i64 C, .int .i64 0]) ∧ Below w.heap.size w w') := Lib.hid fun z => by
    obtain ⟨vV, l1, l2⟩ := HVS.out z
    refine ⟨cmpP (V.1 * 1) (-m.spd * V.2.1), ?_, fun w => ?_⟩
    ·have := of_decide_eq_true (cmp_ge l1)
     exact decide_eq_false (by omega)
    ·have := cmp_gen (V.1, V.2.1) (-m.spd, 1) w
     rwa [cmpG_ok (a := (V.1, V.2.1)) (b := (-m.spd, 1)) vV (valid_one (by omega) (by omega))] at this
   have HC2 : Hid (V.2.2 = 0 → ∃ C, decide (0 < C) = false ∧ ∀ w : World, Calls Try.prog 12 #[.agg #[.int .i64 V.1, .int .i64 V.2.1], .agg #[.int .i64 m.spd, .int .i64 1]] w fun e w' => e = .returned (.tuple #[.int .i64 C, .int .i64 0]) ∧ Below w.heap.size w w') := Lib.hid fun z => by
    obtain ⟨vV, l1, l2⟩ := HVS.out z
    refine ⟨cmpP (V.1 * 1) (m.spd * V.2.1), ?_, fun w => ?_⟩
    ·have := of_decide_eq_true (cmp_le l2)
     exact decide_eq_false (by omega)
    ·have := cmp_gen (V.1, V.2.1) (m.spd, 1) w
     rwa [cmpG_ok (a := (V.1, V.2.1)) (b := (m.spd, 1)) vV (valid_one (by omega) (by omega))] at this
   clear e0 g hL hok hP hV hZ vm V0 V1 ht HE0 HG
   go_enter Try.func6, Try.ntmps6
   go_upto_region 1 with (fail)
   have hat1 := (((HouseAt.new w h 25).carry (below_new (w.alloc (.cells #[.string h.name, .int .i64 h.height, .slice h.sa h.sets.length h.sc, .slice h.ra h.roofs.length h.rc] 25)) (.cells #[.string m.name, .int .i64 m.to, .int .i64 m.spd, .int .i64 m.rise, .int .i64 m.fall] 27))).carry (below_new ((w.alloc (.cells #[.string h.name, .int .i64 h.height, .slice h.sa h.sets.length h.sc, .slice h.ra h.roofs.length h.rc] 25)).alloc (.cells #[.string m.name, .int .i64 m.to, .int .i64 m.spd, .int .i64 m.rise, .int .i64 m.fall] 27)) (.cells #[.int .i64 s.1, .int .i64 s.2] 29)))
   have mat1 := ((MvAt.new (w.alloc (.cells #[.string h.name, .int .i64 h.height, .slice h.sa h.sets.length h.sc, .slice h.ra h.roofs.length h.rc] 25)) m 27).carry (below_new ((w.alloc (.cells #[.string h.name, .int .i64 h.height, .slice h.sa h.sets.length h.sc, .slice h.ra h.roofs.length h.rc] 25)).alloc (.cells #[.string m.name, .int .i64 m.to, .int .i64 m.spd, .int .i64 m.rise, .int .i64 m.fall] 27)) (.cells #[.int .i64 s.1, .int .i64 s.2] 29)))
   have fat0 := (FI.put ((w.alloc (.cells #[.string h.name, .int .i64 h.height, .slice h.sa h.sets.length h.sc, .slice h.ra h.roofs.length h.rc] 25)).alloc (.cells #[.string m.name, .int .i64 m.to, .int .i64 m.spd, .int .i64 m.rise, .int .i64 m.fall] 27)) s.1 s.2 29)
   have hB := (((below_new w (.cells #[.string h.name, .int .i64 h.height, .slice h.sa h.sets.length h.sc, .slice h.ra h.roofs.length h.rc] 25)).alloc (by simp) (.cells #[.string m.name, .int .i64 m.to, .int .i64 m.spd, .int .i64 m.rise, .int .i64 m.fall] 27)).alloc (by simp <;> omega) (.cells #[.int .i64 s.1, .int .i64 s.2] 29))
   have HH := Lib.hid (hh1.grow hB)
   have hm1 : (w.alloc (.cells #[.string h.name, .int .i64 h.height, .slice h.sa h.sets.length h.sc, .slice h.ra h.roofs.length h.rc] 25)).heap.size = w.heap.size + 1 := by simp
   rw [hm1] at mat1
   have hm2 : ((w.alloc (.cells #[.string h.name, .int .i64 h.height, .slice h.sa h.sets.length h.sc, .slice h.ra h.roofs.length h.rc] 25)).alloc (.cells #[.string m.name, .int .i64 m.to, .int .i64 m.spd, .int .i64 m.rise, .int .i64 m.fall] 27)).heap.size = w.heap.size + 1 + 1 := by simp
   rw [hm2] at fat0
   clear hm1 hm2
   generalize (((w.alloc (.cells #[.string h.name, .int .i64 h.height, .slice h.sa h.sets.length h.sc, .slice h.ra h.roofs.length h.rc] 25)).alloc (.cells #[.string m.name, .int .i64 m.to, .int .i64 m.spd, .int .i64 m.rise, .int .i64 m.fall] 27)).alloc (.cells #[.int .i64 s.1, .int .i64 s.2] 29)) = W0 at *
   have HAT := Lib.hid hat1
   have MAT := Lib.hid mat1
   have SAT := Lib.hid fat0
   clear hat1 mat1 fat0
   go_upto_region 3 with (go_at_call 7; (with_reducible refine (awake_any _).mono ?_); rintro e w1 ⟨rfl, hbs⟩)
   replace HAT := Lib.hid (HAT.out.carry hbs)
   replace MAT := Lib.hid (MAT.out.carry hbs)
   replace SAT := Lib.hid (SAT.out.carry hbs)
   replace HH := Lib.hid (HH.out.grow hbs)
   replace hB := hB.trans (hbs.mono hB.size)
   clear hbs
   obtain ⟨k0, k1, k2, k3⟩ := HAT.out
   obtain ⟨m0, m1, m2, m3, m4⟩ := MAT.out
   go_upto_region 5 with (go_at_call 8; (with_reducible refine (HFE.out _ HH.out.toHouseIn0).mono ?_); rintro e w2 ⟨rfl, hbs⟩)
   clear k0 k1 k2 k3 m0 m1 m2 m3 m4
   replace HAT := Lib.hid (HAT.out.carry hbs)
   replace MAT := Lib.hid (MAT.out.carry hbs)
   replace SAT := Lib.hid (SAT.out.carry hbs)
   replace HH := Lib.hid (HH.out.grow hbs)
   replace hB := hB.trans (hbs.mono hB.size)
   clear hbs
   obtain ⟨k0, k1, k2, k3⟩ := HAT.out
   obtain ⟨m0, m1, m2, m3, m4⟩ := MAT.out
   go_upto_region 8 with (go_at_call 15; (with_reducible refine (HPA.out _ HH.out).mono ?_); rintro e w3 ⟨hx, hbs⟩; obtain ⟨v, rfl, hpv⟩ := hx.out; obtain ⟨Bc, rfl, hpc⟩ := HPV.out _ _ hpv; have HP := Lib.hid hpc; clear hx hpv hpc)
   clear k0 k1 k2 k3 m0 m1 m2 m3 m4
   replace HAT := Lib.hid (HAT.out.carry hbs)
   replace MAT := Lib.hid (MAT.out.carry hbs)
   replace SAT := Lib.hid (SAT.out.carry hbs)
   replace HH := Lib.hid (HH.out.grow hbs)
   replace hB := hB.trans (hbs.mono hB.size)
   clear hbs
   rcases hze with rfl | rfl
   ·obtain rfl := hsm rfl
    clear hsm
    go_upto_region 9 with (go_at_call 16; (with_reducible refine (HSM.out _ _ HP.out).mono ?_); rintro e w4 ⟨rfl, hbs⟩)
    replace HAT := Lib.hid (HAT.out.carry hbs)
    replace MAT := Lib.hid (MAT.out.carry hbs)
    replace SAT := Lib.hid (SAT.out.carry hbs)
    replace HH := Lib.hid (HH.out.grow hbs)
    replace HP := Lib.hid (HP.out.grow hbs)
    replace hB := hB.trans (hbs.mono hB.size)
    clear hbs
    go_upto_region 11 with (go_at_call 17; (with_reducible refine (HVA.out _ _ HP.out).mono ?_); rintro e w5 ⟨rfl, hbs⟩)
    replace HAT := Lib.hid (HAT.out.carry hbs)
    replace MAT := Lib.hid (MAT.out.carry hbs)
    replace SAT := Lib.hid (SAT.out.carry hbs)
    replace HH := Lib.hid (HH.out.grow hbs)
    replace HP := Lib.hid (HP.out.grow hbs)
    replace hB := hB.trans (hbs.mono hB.size)
    clear hbs
    obtain ⟨s0, s1, _, _, _⟩ := SAT.out
    go_upto_region 12 with (go_at_call 18; (with_reducible refine (HSL.out _ _ HP.out).mono ?_); rintro e w6 ⟨rfl, hbs⟩)
    clear s0 s1
    replace HAT := Lib.hid (HAT.out.carry hbs)
    replace MAT := Lib.hid (MAT.out.carry hbs)
    replace SAT := Lib.hid (SAT.out.carry hbs)
    replace HH := Lib.hid (HH.out.grow hbs)
    replace HP := Lib.hid (HP.out.grow hbs)
    replace hB := hB.trans (hbs.mono hB.size)
    clear hbs
    have hbn := below_new w6 (.cells #[.int .i64 (V.1), .int .i64 (V.2.1)] 29)
    have hF := FI.put w6 (V.1) (V.2.1) 29
    replace HAT := Lib.hid (HAT.out.carry hbn)
    replace MAT := Lib.hid (MAT.out.carry hbn)
    replace SAT := Lib.hid (SAT.out.carry hbn)
    replace HH := Lib.hid (HH.out.grow hbn)
    replace HP := Lib.hid (HP.out.grow hbn)
    replace hB := hB.trans (hbn.mono hB.size)
    clear hbn
    obtain ⟨Bv, hBq⟩ : ∃ b, w6.heap.size = b := ⟨_, rfl⟩
    simp only [hBq] at hF ⊢
    have FV := Lib.hid hF
    clear hF
    generalize w6.alloc (.cells #[.int .i64 (V.1), .int .i64 (V.2.1)] 29) = W6 at *
    clear hBq
    by_cases zv : V.2.2 = 0
    ·have p1 : (V.2.2 == 0) = true := by simpa using zv
     obtain ⟨C1, g1, HC1⟩ := HC1.out zv
     obtain ⟨C2, g2, HC2⟩ := HC2.out zv
     have HC1 := Lib.hid HC1
     have HC2 := Lib.hid HC2
     clear zv
     go_upto_region 13 with (fail)
     have HS : Hid (∀ w', Below W6.heap.size W6 w' → (fun w' => Below W6.heap.size W6 w' ∧ w'.cell? ⟨Bv, 0, none⟩ = some (.int .i64 V.1) ∧ w'.cell? ⟨Bv, 1, none⟩ = some (.int .i64 V.2.1) ∧ w'.cell? ⟨w.heap.size + 1, 2, none⟩ = some (.int .i64 m.spd)) w') := Lib.hid fun w' hb => by
      obtain ⟨v0, v1, _⟩ := FV.out.carry hb
      obtain ⟨m0, m1, m2, m3, m4⟩ := MAT.out.carry hb
      exact ⟨hb, v0, v1, m2⟩
     have hb0 := (Below.refl W6.heap.size W6).drew
     refine wp_region_held_drew (S := (fun w' => Below W6.heap.size W6 w' ∧ w'.cell? ⟨Bv, 0, none⟩ = some (.int .i64 V.1) ∧ w'.cell? ⟨Bv, 1, none⟩ = some (.int .i64 V.2.1) ∧ w'.cell? ⟨w.heap.size + 1, 2, none⟩ = some (.int .i64 m.spd))) (by kernel_rfl) (HS.out _ hb0) (fun hHeld => ?_)
     refine tkB 0 ?_
     simp only [Act.put, List.setIfInBounds_toArray, List.set_cons_zero, List.set_cons_succ, List.getElem_toArray, List.getElem_cons_zero]
     refine tkB 1 ?_
     simp only [Act.put, List.setIfInBounds_toArray, List.set_cons_zero, List.set_cons_succ, List.getElem_toArray, List.getElem_cons_succ, List.getElem_cons_zero]
     refine tkB 2 ?_
     simp only [Act.put, List.setIfInBounds_toArray, List.set_cons_zero, List.set_cons_succ, List.getElem_toArray, List.getElem_cons_succ, List.getElem_cons_zero]
     refine tkB 3 ?_
     simp only [Act.put, List.setIfInBounds_toArray, List.set_cons_zero, List.set_cons_succ, List.getElem_toArray, List.getElem_cons_succ, List.getElem_cons_zero]
     refine wpAnyH_ready (rs := [4]) (by kernel_rfl) (by simp) ?_
     refine AllReadyH.cons (o := _) rfl (fun K hK => ?_) AllReadyH.nil
     try simp only [List.getElem_toArray, List.getElem_cons_succ, List.getElem_cons_zero]
     go_simp
     (go_at_call 11; go_split_ands; (with_reducible refine (lwhole_any (-m.spd) _).mono ?_); rintro e x1 ⟨rfl, hx1⟩; have hb1 := hb0.trans (hx1.mono hb0.size))
     go_wp2_with fail
     refine hK.out _ _ (HS.out _ hb1) (fun hHeld => ?_)
     clear hK K
     try simp only [Act.put, List.setIfInBounds_toArray, List.set_cons_zero, List.set_cons_succ, List.getElem_toArray, List.getElem_cons_succ, List.getElem_cons_zero]
     refine wpAnyH_ready (rs := [5]) (by kernel_rfl) (by simp) ?_
     refine AllReadyH.cons (o := _) rfl (fun K hK => ?_) AllReadyH.nil
     try simp only [List.getElem_toArray, List.getElem_cons_succ, List.getElem_cons_zero]
     go_simp
     (go_at_call 12; go_split_ands; (with_reducible refine (HC1.out _).mono ?_); rintro e x2 ⟨rfl, hx2⟩; have hb2 := hb1.trans (hx2.mono hb1.size))
     go_wp2_with fail
     refine hK.out _ _ (HS.out _ hb2) (fun hHeld => ?_)
     clear hK K
     try simp only [Act.put, List.setIfInBounds_toArray, List.set_cons_zero, List.set_cons_succ, List.getElem_toArray, List.getElem_cons_succ, List.getElem_cons_zero]
     refine tkB 6 ?_
     simp only [Act.put, List.setIfInBounds_toArray, List.set_cons_zero, List.set_cons_succ, List.getElem_toArray, List.getElem_cons_succ, List.getElem_cons_zero]
     refine tkB 7 ?_
     simp only [Act.put, List.setIfInBounds_toArray, List.set_cons_zero, List.set_cons_succ, List.getElem_toArray, List.getElem_cons_succ, List.getElem_cons_zero]
     refine tkB 8 ?_
     simp only [Act.put, List.setIfInBounds_toArray, List.set_cons_zero, List.set_cons_succ, List.getElem_toArray, List.getElem_cons_succ, List.getElem_cons_zero]
     refine tkB 9 ?_
     simp only [Act.put, List.setIfInBounds_toArray, List.set_cons_zero, List.set_cons_succ, List.getElem_toArray, List.getElem_cons_succ, List.getElem_cons_zero]
     refine tkB 10 ?_
     simp only [Act.put, List.setIfInBounds_toArray, List.set_cons_zero, List.set_cons_succ, List.getElem_toArray, List.getElem_cons_succ, List.getElem_cons_zero]
     refine wpAnyH_done (by kernel_rfl) ?_ _
     replace HAT := Lib.hid (HAT.out.carry hb2)
     replace MAT := Lib.hid (MAT.out.carry hb2)
     replace SAT := Lib.hid (SAT.out.carry hb2)
     replace HH := Lib.hid (HH.out.grow hb2)
     replace HP := Lib.hid (HP.out.grow hb2)
     replace FV := Lib.hid (FV.out.carry hb2)
     replace hB := hB.trans (hb2.mono hB.size)
     clear hb0 hb1 hb2 hx1 hx2 HS
     generalize x2 = W7 at *
     go_upto_region 14 with (fail)
     have HS : Hid (∀ w', Below W7.heap.size W7 w' → (fun w' => Below W7.heap.size W7 w' ∧ w'.cell? ⟨Bv, 0, none⟩ = some (.int .i64 V.1) ∧ w'.cell? ⟨Bv, 1, none⟩ = some (.int .i64 V.2.1) ∧ w'.cell? ⟨w.heap.size + 1, 2, none⟩ = some (.int .i64 m.spd)) w') := Lib.hid fun w' hb => by
      obtain ⟨v0, v1, _⟩ := FV.out.carry hb
      obtain ⟨m0, m1, m2, m3, m4⟩ := MAT.out.carry hb
      exact ⟨hb, v0, v1, m2⟩
     have hb0 := (Below.refl W7.heap.size W7).drew
     refine wp_region_held_drew (S := (fun w' => Below W7.heap.size W7 w' ∧ w'.cell? ⟨Bv, 0, none⟩ = some (.int .i64 V.1) ∧ w'.cell? ⟨Bv, 1, none⟩ = some (.int .i64 V.2.1) ∧ w'.cell? ⟨w.heap.size + 1, 2, none⟩ = some (.int .i64 m.spd))) (by kernel_rfl) (HS.out _ hb0) (fun hHeld => ?_)
     refine tkB 0 ?_
     simp only [Act.put, List.setIfInBounds_toArray, List.set_cons_zero, List.set_cons_succ, List.getElem_toArray, List.getElem_cons_zero]
     refine tkB 1 ?_
     simp only [Act.put, List.setIfInBounds_toArray, List.set_cons_zero, List.set_cons_succ, List.getElem_toArray, List.getElem_cons_succ, List.getElem_cons_zero]
     refine tkB 2 ?_
     simp only [Act.put, List.setIfInBounds_toArray, List.set_cons_zero, List.set_cons_succ, List.getElem_toArray, List.getElem_cons_succ, List.getElem_cons_zero]
     refine wpAnyH_ready (rs := [3]) (by kernel_rfl) (by simp) ?_
     refine AllReadyH.cons (o := _) rfl (fun K hK => ?_) AllReadyH.nil
     try simp only [List.getElem_toArray, List.getElem_cons_succ, List.getElem_cons_zero]
     go_simp
     (go_at_call 11; go_split_ands; (with_reducible refine (lwhole_any m.spd _).mono ?_); rintro e x1 ⟨rfl, hx1⟩; have hb1 := hb0.trans (hx1.mono hb0.size))
     go_wp2_with fail
     refine hK.out _ _ (HS.out _ hb1) (fun hHeld => ?_)
     clear hK K
     try simp only [Act.put, List.setIfInBounds_toArray, List.set_cons_zero, List.set_cons_succ, List.getElem_toArray, List.getElem_cons_succ, List.getElem_cons_zero]
     refine wpAnyH_ready (rs := [4]) (by kernel_rfl) (by simp) ?_
     refine AllReadyH.cons (o := _) rfl (fun K hK => ?_) AllReadyH.nil
     try simp only [List.getElem_toArray, List.getElem_cons_succ, List.getElem_cons_zero]
     go_simp
     (go_at_call 12; go_split_ands; (with_reducible refine (HC2.out _).mono ?_); rintro e x2 ⟨rfl, hx2⟩; have hb2 := hb1.trans (hx2.mono hb1.size))
     go_wp2_with fail
     refine hK.out _ _ (HS.out _ hb2) (fun hHeld => ?_)
     clear hK K
     try simp only [Act.put, List.setIfInBounds_toArray, List.set_cons_zero, List.set_cons_succ, List.getElem_toArray, List.getElem_cons_succ, List.getElem_cons_zero]
     refine tkB 5 ?_
     simp only [Act.put, List.setIfInBounds_toArray, List.set_cons_zero, List.set_cons_succ, List.getElem_toArray, List.getElem_cons_succ, List.getElem_cons_zero]
     refine tkB 6 ?_
     simp only [Act.put, List.setIfInBounds_toArray, List.set_cons_zero, List.set_cons_succ, List.getElem_toArray, List.getElem_cons_succ, List.getElem_cons_zero]
     refine tkB 7 ?_
     simp only [Act.put, List.setIfInBounds_toArray, List.set_cons_zero, List.set_cons_succ, List.getElem_toArray, List.getElem_cons_succ, List.getElem_cons_zero]
     refine tkB 8 ?_
     simp only [Act.put, List.setIfInBounds_toArray, List.set_cons_zero, List.set_cons_succ, List.getElem_toArray, List.getElem_cons_succ, List.getElem_cons_zero]
     refine tkB 9 ?_
     simp only [Act.put, List.setIfInBounds_toArray, List.set_cons_zero, List.set_cons_succ, List.getElem_toArray, List.getElem_cons_succ, List.getElem_cons_zero]
     refine wpAnyH_done (by kernel_rfl) ?_ _
     replace HAT := Lib.hid (HAT.out.carry hb2)
     replace MAT := Lib.hid (MAT.out.carry hb2)
     replace SAT := Lib.hid (SAT.out.carry hb2)
     replace HH := Lib.hid (HH.out.grow hb2)
     replace HP := Lib.hid (HP.out.grow hb2)
     replace FV := Lib.hid (FV.out.carry hb2)
     replace hB := hB.trans (hb2.mono hB.size)
     clear hb0 hb1 hb2 hx1 hx2 HS
     generalize x2 = W8 at *
     clear SAT HP
     clear FV
     obtain ⟨m0, m1, m2, m3, m4⟩ := MAT.out
     have hz : w.heap.size + 1 < W8.heap.size := World.block_lt_of_cell? _ _ m0
     go_upto_region 18 with (fail)
     go_region
     all_goals go_upto_region 19 with (fail)
     clear m0 m1 m2 m3 m4
     clear hz
     have hbn : Below W8.heap.size W8 (W8.alloc (.cells #[.string m.name, .int .i64 f, .int .i64 m.spd, .int .i64 m.fall, .int .i64 m.rise] 27)).drew := (below_new _ _).drew
     have hF : MvAt (W8.alloc (.cells #[.string m.name, .int .i64 f, .int .i64 m.spd, .int .i64 m.fall, .int .i64 m.rise] 27)).drew W8.heap.size ⟨m.name, f, m.spd, m.fall, m.rise⟩ := by
      have h := MvAt.new W8 ⟨m.name, f, m.spd, m.fall, m.rise⟩ 27
      exact ⟨(World.cell?_drew _ _).trans h.1, (World.cell?_drew _ _).trans h.2.1, (World.cell?_drew _ _).trans h.2.2.1, (World.cell?_drew _ _).trans h.2.2.2.1, (World.cell?_drew _ _).trans h.2.2.2.2⟩
     replace HAT := Lib.hid (HAT.out.carry hbn)
     replace MAT := Lib.hid (MAT.out.carry hbn)
     replace HH := Lib.hid (HH.out.grow hbn)
     replace hB := hB.trans (hbn.mono hB.size)
     clear hbn
     obtain ⟨Bk, hBq⟩ : ∃ b, W8.heap.size = b := ⟨_, rfl⟩
     simp only [hBq] at hF ⊢
     have BAT := Lib.hid hF
     clear hF
     generalize (W8.alloc (.cells #[.string m.name, .int .i64 f, .int .i64 m.spd, .int .i64 m.fall, .int .i64 m.rise] 27)).drew = W9 at *
     clear hBq
     obtain ⟨k0, k1, k2, k3⟩ := HAT.out
     obtain ⟨m0, m1, m2, m3, m4⟩ := MAT.out
     go_upto_region 20 with (go_at_call 9; (with_reducible refine (HE1.out _ HH.out).mono ?_); rintro e w7 ⟨rfl, hbs⟩)
     clear k0 k1 k2 k3 m0 m1 m2 m3 m4
     replace HAT := Lib.hid (HAT.out.carry hbs)
     replace MAT := Lib.hid (MAT.out.carry hbs)
     replace HH := Lib.hid (HH.out.grow hbs)
     replace BAT := Lib.hid (BAT.out.carry hbs)
     replace hB := hB.trans (hbs.mono hB.size)
     clear hbs
     have hbn := below_new w7 (.cells #[.int .i64 (P.1), .int .i64 (P.2)] 29)
     have hF := FI.put w7 (P.1) (P.2) 29
     replace HAT := Lib.hid (HAT.out.carry hbn)
     replace MAT := Lib.hid (MAT.out.carry hbn)
     replace HH := Lib.hid (HH.out.grow hbn)
     replace BAT := Lib.hid (BAT.out.carry hbn)
     replace hB := hB.trans (hbn.mono hB.size)
     clear hbn
     obtain ⟨Bp, hBq⟩ : ∃ b, w7.heap.size = b := ⟨_, rfl⟩
     simp only [hBq] at hF ⊢
     have FP := Lib.hid hF
     clear hF
     generalize w7.alloc (.cells #[.int .i64 (P.1), .int .i64 (P.2)] 29) = W10 at *
     clear hBq
     obtain ⟨k0, k1, k2, k3⟩ := HAT.out
     obtain ⟨m0, m1, m2, m3, m4⟩ := MAT.out
     obtain ⟨b0, b1, b2, b3, b4⟩ := BAT.out
     go_upto_region 21 with (go_at_call 9; (with_reducible refine (HE2.out _ HH.out).mono ?_); rintro e w8 ⟨rfl, hbs⟩)
     clear k0 k1 k2 k3 m0 m1 m2 m3 m4 b0 b1 b2 b3 b4
     replace HAT := Lib.hid (HAT.out.carry hbs)
     replace MAT := Lib.hid (MAT.out.carry hbs)
     replace HH := Lib.hid (HH.out.grow hbs)
     replace BAT := Lib.hid (BAT.out.carry hbs)
     replace FP := Lib.hid (FP.out.carry hbs)
     replace hB := hB.trans (hbs.mono hB.size)
     clear hbs
     have hbn := below_new w8 (.cells #[.int .i64 (P.1), .int .i64 (P.2)] 29)
     have hF := FI.put w8 (P.1) (P.2) 29
     replace HAT := Lib.hid (HAT.out.carry hbn)
     replace MAT := Lib.hid (MAT.out.carry hbn)
     replace HH := Lib.hid (HH.out.grow hbn)
     replace BAT := Lib.hid (BAT.out.carry hbn)
     replace FP := Lib.hid (FP.out.carry hbn)
     replace hB := hB.trans (hbn.mono hB.size)
     clear hbn
     obtain ⟨Bq, hBq⟩ : ∃ b, w8.heap.size = b := ⟨_, rfl⟩
     simp only [hBq] at hF ⊢
     have FQ := Lib.hid hF
     clear hF
     generalize w8.alloc (.cells #[.int .i64 (P.1), .int .i64 (P.2)] 29) = W11 at *
     clear hBq
     obtain ⟨p0, p1, _, _, _⟩ := FP.out
     obtain ⟨q0, q1, _, _, _⟩ := FQ.out
     have r1 : (P.1 == P.1) = true := by simp
     have r2 : (P.2 == P.2) = true := by simp
     go_wp2_with fail
     go_ret
     exact ⟨rfl, hB⟩
    ·have p1 : (V.2.2 == 0) = false := by simpa using zv
     clear zv HC1 HC2
     clear SAT HP
     clear FV
     obtain ⟨m0, m1, m2, m3, m4⟩ := MAT.out
     have hz : w.heap.size + 1 < W6.heap.size := World.block_lt_of_cell? _ _ m0
     go_upto_region 18 with (fail)
     go_region
     all_goals go_upto_region 19 with (fail)
     clear m0 m1 m2 m3 m4
     clear hz
     have hbn : Below W6.heap.size W6 (W6.alloc (.cells #[.string m.name, .int .i64 f, .int .i64 m.spd, .int .i64 m.fall, .int .i64 m.rise] 27)).drew := (below_new _ _).drew
     have hF : MvAt (W6.alloc (.cells #[.string m.name, .int .i64 f, .int .i64 m.spd, .int .i64 m.fall, .int .i64 m.rise] 27)).drew W6.heap.size ⟨m.name, f, m.spd, m.fall, m.rise⟩ := by
      have h := MvAt.new W6 ⟨m.name, f, m.spd, m.fall, m.rise⟩ 27
      exact ⟨(World.cell?_drew _ _).trans h.1, (World.cell?_drew _ _).trans h.2.1, (World.cell?_drew _ _).trans h.2.2.1, (World.cell?_drew _ _).trans h.2.2.2.1, (World.cell?_drew _ _).trans h.2.2.2.2⟩
     replace HAT := Lib.hid (HAT.out.carry hbn)
     replace MAT := Lib.hid (MAT.out.carry hbn)
     replace HH := Lib.hid (HH.out.grow hbn)
     replace hB := hB.trans (hbn.mono hB.size)
     clear hbn
     obtain ⟨Bk, hBq⟩ : ∃ b, W6.heap.size = b := ⟨_, rfl⟩
     simp only [hBq] at hF ⊢
     have BAT := Lib.hid hF
     clear hF
     generalize (W6.alloc (.cells #[.string m.name, .int .i64 f, .int .i64 m.spd, .int .i64 m.fall, .int .i64 m.rise] 27)).drew = W9 at *
     clear hBq
     obtain ⟨k0, k1, k2, k3⟩ := HAT.out
     obtain ⟨m0, m1, m2, m3, m4⟩ := MAT.out
     go_upto_region 20 with (go_at_call 9; (with_reducible refine (HE1.out _ HH.out).mono ?_); rintro e w7 ⟨rfl, hbs⟩)
     clear k0 k1 k2 k3 m0 m1 m2 m3 m4
     replace HAT := Lib.hid (HAT.out.carry hbs)
     replace MAT := Lib.hid (MAT.out.carry hbs)
     replace HH := Lib.hid (HH.out.grow hbs)
     replace BAT := Lib.hid (BAT.out.carry hbs)
     replace hB := hB.trans (hbs.mono hB.size)
     clear hbs
     have hbn := below_new w7 (.cells #[.int .i64 (P.1), .int .i64 (P.2)] 29)
     have hF := FI.put w7 (P.1) (P.2) 29
     replace HAT := Lib.hid (HAT.out.carry hbn)
     replace MAT := Lib.hid (MAT.out.carry hbn)
     replace HH := Lib.hid (HH.out.grow hbn)
     replace BAT := Lib.hid (BAT.out.carry hbn)
     replace hB := hB.trans (hbn.mono hB.size)
     clear hbn
     obtain ⟨Bp, hBq⟩ : ∃ b, w7.heap.size = b := ⟨_, rfl⟩
     simp only [hBq] at hF ⊢
     have FP := Lib.hid hF
     clear hF
     generalize w7.alloc (.cells #[.int .i64 (P.1), .int .i64 (P.2)] 29) = W10 at *
     clear hBq
     obtain ⟨k0, k1, k2, k3⟩ := HAT.out
     obtain ⟨m0, m1, m2, m3, m4⟩ := MAT.out
     obtain ⟨b0, b1, b2, b3, b4⟩ := BAT.out
     go_upto_region 21 with (go_at_call 9; (with_reducible refine (HE2.out _ HH.out).mono ?_); rintro e w8 ⟨rfl, hbs⟩)
     clear k0 k1 k2 k3 m0 m1 m2 m3 m4 b0 b1 b2 b3 b4
     replace HAT := Lib.hid (HAT.out.carry hbs)
     replace MAT := Lib.hid (MAT.out.carry hbs)
     replace HH := Lib.hid (HH.out.grow hbs)
     replace BAT := Lib.hid (BAT.out.carry hbs)
     replace FP := Lib.hid (FP.out.carry hbs)
     replace hB := hB.trans (hbs.mono hB.size)
     clear hbs
     have hbn := below_new w8 (.cells #[.int .i64 (P.1), .int .i64 (P.2)] 29)
     have hF := FI.put w8 (P.1) (P.2) 29
     replace HAT := Lib.hid (HAT.out.carry hbn)
     replace MAT := Lib.hid (MAT.out.carry hbn)
     replace HH := Lib.hid (HH.out.grow hbn)
     replace BAT := Lib.hid (BAT.out.carry hbn)
     replace FP := Lib.hid (FP.out.carry hbn)
     replace hB := hB.trans (hbn.mono hB.size)
     clear hbn
     obtain ⟨Bq, hBq⟩ : ∃ b, w8.heap.size = b := ⟨_, rfl⟩
     simp only [hBq] at hF ⊢
     have FQ := Lib.hid hF
     clear hF
     generalize w8.alloc (.cells #[.int .i64 (P.1), .int .i64 (P.2)] 29) = W11 at *
     clear hBq
     obtain ⟨p0, p1, _, _, _⟩ := FP.out
     obtain ⟨q0, q1, _, _, _⟩ := FQ.out
     have r1 : (P.1 == P.1) = true := by simp
     have r2 : (P.2 == P.2) = true := by simp
     go_wp2_with fail
     go_ret
     exact ⟨rfl, hB⟩
   ·clear hsm
    go_upto_region 9 with (go_at_call 16; (with_reducible refine (HSM.out _ _ HP.out).mono ?_); rintro e w4 ⟨rfl, hbs⟩)
    replace HAT := Lib.hid (HAT.out.carry hbs)
    replace MAT := Lib.hid (MAT.out.carry hbs)
    replace SAT := Lib.hid (SAT.out.carry hbs)
    replace HH := Lib.hid (HH.out.grow hbs)
    replace HP := Lib.hid (HP.out.grow hbs)
    replace hB := hB.trans (hbs.mono hB.size)
    clear hbs
    go_upto_region 11 with (go_at_call 17; (with_reducible refine (HVA.out _ _ HP.out).mono ?_); rintro e w5 ⟨rfl, hbs⟩)
    replace HAT := Lib.hid (HAT.out.carry hbs)
    replace MAT := Lib.hid (MAT.out.carry hbs)
    replace SAT := Lib.hid (SAT.out.carry hbs)
    replace HH := Lib.hid (HH.out.grow hbs)
    replace HP := Lib.hid (HP.out.grow hbs)
    replace hB := hB.trans (hbs.mono hB.size)
    clear hbs
    obtain ⟨s0, s1, _, _, _⟩ := SAT.out
    go_upto_region 12 with (go_at_call 18; (with_reducible refine (HSL.out _ _ HP.out).mono ?_); rintro e w6 ⟨rfl, hbs⟩)
    clear s0 s1
    replace HAT := Lib.hid (HAT.out.carry hbs)
    replace MAT := Lib.hid (MAT.out.carry hbs)
    replace SAT := Lib.hid (SAT.out.carry hbs)
    replace HH := Lib.hid (HH.out.grow hbs)
    replace HP := Lib.hid (HP.out.grow hbs)
    replace hB := hB.trans (hbs.mono hB.size)
    clear hbs
    have hbn := below_new w6 (.cells #[.int .i64 (V.1), .int .i64 (V.2.1)] 29)
    have hF := FI.put w6 (V.1) (V.2.1) 29
    replace HAT := Lib.hid (HAT.out.carry hbn)
    replace MAT := Lib.hid (MAT.out.carry hbn)
    replace SAT := Lib.hid (SAT.out.carry hbn)
    replace HH := Lib.hid (HH.out.grow hbn)
    replace HP := Lib.hid (HP.out.grow hbn)
    replace hB := hB.trans (hbn.mono hB.size)
    clear hbn
    obtain ⟨Bv, hBq⟩ : ∃ b, w6.heap.size = b := ⟨_, rfl⟩
    simp only [hBq] at hF ⊢
    have FV := Lib.hid hF
    clear hF
    generalize w6.alloc (.cells #[.int .i64 (V.1), .int .i64 (V.2.1)] 29) = W6 at *
    clear hBq
    by_cases zv : V.2.2 = 0
    ·have p1 : (V.2.2 == 0) = true := by simpa using zv
     obtain ⟨C1, g1, HC1⟩ := HC1.out zv
     obtain ⟨C2, g2, HC2⟩ := HC2.out zv
     have HC1 := Lib.hid HC1
     have HC2 := Lib.hid HC2
     clear zv
     go_upto_region 13 with (fail)
     have HS : Hid (∀ w', Below W6.heap.size W6 w' → (fun w' => Below W6.heap.size W6 w' ∧ w'.cell? ⟨Bv, 0, none⟩ = some (.int .i64 V.1) ∧ w'.cell? ⟨Bv, 1, none⟩ = some (.int .i64 V.2.1) ∧ w'.cell? ⟨w.heap.size + 1, 2, none⟩ = some (.int .i64 m.spd)) w') := Lib.hid fun w' hb => by
      obtain ⟨v0, v1, _⟩ := FV.out.carry hb
      obtain ⟨m0, m1, m2, m3, m4⟩ := MAT.out.carry hb
      exact ⟨hb, v0, v1, m2⟩
     have hb0 := (Below.refl W6.heap.size W6).drew
     refine wp_region_held_drew (S := (fun w' => Below W6.heap.size W6 w' ∧ w'.cell? ⟨Bv, 0, none⟩ = some (.int .i64 V.1) ∧ w'.cell? ⟨Bv, 1, none⟩ = some (.int .i64 V.2.1) ∧ w'.cell? ⟨w.heap.size + 1, 2, none⟩ = some (.int .i64 m.spd))) (by kernel_rfl) (HS.out _ hb0) (fun hHeld => ?_)
     refine tkB 0 ?_
     simp only [Act.put, List.setIfInBounds_toArray, List.set_cons_zero, List.set_cons_succ, List.getElem_toArray, List.getElem_cons_zero]
     refine tkB 1 ?_
     simp only [Act.put, List.setIfInBounds_toArray, List.set_cons_zero, List.set_cons_succ, List.getElem_toArray, List.getElem_cons_succ, List.getElem_cons_zero]
     refine tkB 2 ?_
     simp only [Act.put, List.setIfInBounds_toArray, List.set_cons_zero, List.set_cons_succ, List.getElem_toArray, List.getElem_cons_succ, List.getElem_cons_zero]
     refine tkB 3 ?_
     simp only [Act.put, List.setIfInBounds_toArray, List.set_cons_zero, List.set_cons_succ, List.getElem_toArray, List.getElem_cons_succ, List.getElem_cons_zero]
     refine wpAnyH_ready (rs := [4]) (by kernel_rfl) (by simp) ?_
     refine AllReadyH.cons (o := _) rfl (fun K hK => ?_) AllReadyH.nil
     try simp only [List.getElem_toArray, List.getElem_cons_succ, List.getElem_cons_zero]
     go_simp
     (go_at_call 11; go_split_ands; (with_reducible refine (lwhole_any (-m.spd) _).mono ?_); rintro e x1 ⟨rfl, hx1⟩; have hb1 := hb0.trans (hx1.mono hb0.size))
     go_wp2_with fail
     refine hK.out _ _ (HS.out _ hb1) (fun hHeld => ?_)
     clear hK K
     try simp only [Act.put, List.setIfInBounds_toArray, List.set_cons_zero, List.set_cons_succ, List.getElem_toArray, List.getElem_cons_succ, List.getElem_cons_zero]
     refine wpAnyH_ready (rs := [5]) (by kernel_rfl) (by simp) ?_
     refine AllReadyH.cons (o := _) rfl (fun K hK => ?_) AllReadyH.nil
     try simp only [List.getElem_toArray, List.getElem_cons_succ, List.getElem_cons_zero]
     go_simp
     (go_at_call 12; go_split_ands; (with_reducible refine (HC1.out _).mono ?_); rintro e x2 ⟨rfl, hx2⟩; have hb2 := hb1.trans (hx2.mono hb1.size))
     go_wp2_with fail
     refine hK.out _ _ (HS.out _ hb2) (fun hHeld => ?_)
     clear hK K
     try simp only [Act.put, List.setIfInBounds_toArray, List.set_cons_zero, List.set_cons_succ, List.getElem_toArray, List.getElem_cons_succ, List.getElem_cons_zero]
     refine tkB 6 ?_
     simp only [Act.put, List.setIfInBounds_toArray, List.set_cons_zero, List.set_cons_succ, List.getElem_toArray, List.getElem_cons_succ, List.getElem_cons_zero]
     refine tkB 7 ?_
     simp only [Act.put, List.setIfInBounds_toArray, List.set_cons_zero, List.set_cons_succ, List.getElem_toArray, List.getElem_cons_succ, List.getElem_cons_zero]
     refine tkB 8 ?_
     simp only [Act.put, List.setIfInBounds_toArray, List.set_cons_zero, List.set_cons_succ, List.getElem_toArray, List.getElem_cons_succ, List.getElem_cons_zero]
     refine tkB 9 ?_
     simp only [Act.put, List.setIfInBounds_toArray, List.set_cons_zero, List.set_cons_succ, List.getElem_toArray, List.getElem_cons_succ, List.getElem_cons_zero]
     refine tkB 10 ?_
     simp only [Act.put, List.setIfInBounds_toArray, List.set_cons_zero, List.set_cons_succ, List.getElem_toArray, List.getElem_cons_succ, List.getElem_cons_zero]
     refine wpAnyH_done (by kernel_rfl) ?_ _
     replace HAT := Lib.hid (HAT.out.carry hb2)
     replace MAT := Lib.hid (MAT.out.carry hb2)
     replace SAT := Lib.hid (SAT.out.carry hb2)
     replace HH := Lib.hid (HH.out.grow hb2)
     replace HP := Lib.hid (HP.out.grow hb2)
     replace FV := Lib.hid (FV.out.carry hb2)
     replace hB := hB.trans (hb2.mono hB.size)
     clear hb0 hb1 hb2 hx1 hx2 HS
     generalize x2 = W7 at *
     go_upto_region 14 with (fail)
     have HS : Hid (∀ w', Below W7.heap.size W7 w' → (fun w' => Below W7.heap.size W7 w' ∧ w'.cell? ⟨Bv, 0, none⟩ = some (.int .i64 V.1) ∧ w'.cell? ⟨Bv, 1, none⟩ = some (.int .i64 V.2.1) ∧ w'.cell? ⟨w.heap.size + 1, 2, none⟩ = some (.int .i64 m.spd)) w') := Lib.hid fun w' hb => by
      obtain ⟨v0, v1, _⟩ := FV.out.carry hb
      obtain ⟨m0, m1, m2, m3, m4⟩ := MAT.out.carry hb
      exact ⟨hb, v0, v1, m2⟩
     have hb0 := (Below.refl W7.heap.size W7).drew
     refine wp_region_held_drew (S := (fun w' => Below W7.heap.size W7 w' ∧ w'.cell? ⟨Bv, 0, none⟩ = some (.int .i64 V.1) ∧ w'.cell? ⟨Bv, 1, none⟩ = some (.int .i64 V.2.1) ∧ w'.cell? ⟨w.heap.size + 1, 2, none⟩ = some (.int .i64 m.spd))) (by kernel_rfl) (HS.out _ hb0) (fun hHeld => ?_)
     refine tkB 0 ?_
     simp only [Act.put, List.setIfInBounds_toArray, List.set_cons_zero, List.set_cons_succ, List.getElem_toArray, List.getElem_cons_zero]
     refine tkB 1 ?_
     simp only [Act.put, List.setIfInBounds_toArray, List.set_cons_zero, List.set_cons_succ, List.getElem_toArray, List.getElem_cons_succ, List.getElem_cons_zero]
     refine tkB 2 ?_
     simp only [Act.put, List.setIfInBounds_toArray, List.set_cons_zero, List.set_cons_succ, List.getElem_toArray, List.getElem_cons_succ, List.getElem_cons_zero]
     refine wpAnyH_ready (rs := [3]) (by kernel_rfl) (by simp) ?_
     refine AllReadyH.cons (o := _) rfl (fun K hK => ?_) AllReadyH.nil
     try simp only [List.getElem_toArray, List.getElem_cons_succ, List.getElem_cons_zero]
     go_simp
     (go_at_call 11; go_split_ands; (with_reducible refine (lwhole_any m.spd _).mono ?_); rintro e x1 ⟨rfl, hx1⟩; have hb1 := hb0.trans (hx1.mono hb0.size))
     go_wp2_with fail
     refine hK.out _ _ (HS.out _ hb1) (fun hHeld => ?_)
     clear hK K
     try simp only [Act.put, List.setIfInBounds_toArray, List.set_cons_zero, List.set_cons_succ, List.getElem_toArray, List.getElem_cons_succ, List.getElem_cons_zero]
     refine wpAnyH_ready (rs := [4]) (by kernel_rfl) (by simp) ?_
     refine AllReadyH.cons (o := _) rfl (fun K hK => ?_) AllReadyH.nil
     try simp only [List.getElem_toArray, List.getElem_cons_succ, List.getElem_cons_zero]
     go_simp
     (go_at_call 12; go_split_ands; (with_reducible refine (HC2.out _).mono ?_); rintro e x2 ⟨rfl, hx2⟩; have hb2 := hb1.trans (hx2.mono hb1.size))
     go_wp2_with fail
     refine hK.out _ _ (HS.out _ hb2) (fun hHeld => ?_)
     clear hK K
     try simp only [Act.put, List.setIfInBounds_toArray, List.set_cons_zero, List.set_cons_succ, List.getElem_toArray, List.getElem_cons_succ, List.getElem_cons_zero]
     refine tkB 5 ?_
     simp only [Act.put, List.setIfInBounds_toArray, List.set_cons_zero, List.set_cons_succ, List.getElem_toArray, List.getElem_cons_succ, List.getElem_cons_zero]
     refine tkB 6 ?_
     simp only [Act.put, List.setIfInBounds_toArray, List.set_cons_zero, List.set_cons_succ, List.getElem_toArray, List.getElem_cons_succ, List.getElem_cons_zero]
     refine tkB 7 ?_
     simp only [Act.put, List.setIfInBounds_toArray, List.set_cons_zero, List.set_cons_succ, List.getElem_toArray, List.getElem_cons_succ, List.getElem_cons_zero]
     refine tkB 8 ?_
     simp only [Act.put, List.setIfInBounds_toArray, List.set_cons_zero, List.set_cons_succ, List.getElem_toArray, List.getElem_cons_succ, List.getElem_cons_zero]
     refine tkB 9 ?_
     simp only [Act.put, List.setIfInBounds_toArray, List.set_cons_zero, List.set_cons_succ, List.getElem_toArray, List.getElem_cons_succ, List.getElem_cons_zero]
     refine wpAnyH_done (by kernel_rfl) ?_ _
     replace HAT := Lib.hid (HAT.out.carry hb2)
     replace MAT := Lib.hid (MAT.out.carry hb2)
     replace SAT := Lib.hid (SAT.out.carry hb2)
     replace HH := Lib.hid (HH.out.grow hb2)
     replace HP := Lib.hid (HP.out.grow hb2)
     replace FV := Lib.hid (FV.out.carry hb2)
     replace hB := hB.trans (hb2.mono hB.size)
     clear hb0 hb1 hb2 hx1 hx2 HS
     generalize x2 = W8 at *
     clear SAT HP
     clear FV
     obtain ⟨m0, m1, m2, m3, m4⟩ := MAT.out
     have hz : w.heap.size + 1 < W8.heap.size := World.block_lt_of_cell? _ _ m0
     go_upto_region 18 with (fail)
     go_region
     all_goals go_upto_region 19 with (fail)
     clear m0 m1 m2 m3 m4
     clear hz
     have hbn : Below W8.heap.size W8 (W8.alloc (.cells #[.string m.name, .int .i64 f, .int .i64 m.spd, .int .i64 m.fall, .int .i64 m.rise] 27)).drew := (below_new _ _).drew
     have hF : MvAt (W8.alloc (.cells #[.string m.name, .int .i64 f, .int .i64 m.spd, .int .i64 m.fall, .int .i64 m.rise] 27)).drew W8.heap.size ⟨m.name, f, m.spd, m.fall, m.rise⟩ := by
      have h := MvAt.new W8 ⟨m.name, f, m.spd, m.fall, m.rise⟩ 27
      exact ⟨(World.cell?_drew _ _).trans h.1, (World.cell?_drew _ _).trans h.2.1, (World.cell?_drew _ _).trans h.2.2.1, (World.cell?_drew _ _).trans h.2.2.2.1, (World.cell?_drew _ _).trans h.2.2.2.2⟩
     replace HAT := Lib.hid (HAT.out.carry hbn)
     replace MAT := Lib.hid (MAT.out.carry hbn)
     replace HH := Lib.hid (HH.out.grow hbn)
     replace hB := hB.trans (hbn.mono hB.size)
     clear hbn
     obtain ⟨Bk, hBq⟩ : ∃ b, W8.heap.size = b := ⟨_, rfl⟩
     simp only [hBq] at hF ⊢
     have BAT := Lib.hid hF
     clear hF
     generalize (W8.alloc (.cells #[.string m.name, .int .i64 f, .int .i64 m.spd, .int .i64 m.fall, .int .i64 m.rise] 27)).drew = W9 at *
     clear hBq
     obtain ⟨k0, k1, k2, k3⟩ := HAT.out
     obtain ⟨m0, m1, m2, m3, m4⟩ := MAT.out
     go_upto_region 20 with (go_at_call 9; (with_reducible refine (HE1.out _ HH.out).mono ?_); rintro e w7 ⟨rfl, hbs⟩)
     clear k0 k1 k2 k3 m0 m1 m2 m3 m4
     replace HAT := Lib.hid (HAT.out.carry hbs)
     replace MAT := Lib.hid (MAT.out.carry hbs)
     replace HH := Lib.hid (HH.out.grow hbs)
     replace BAT := Lib.hid (BAT.out.carry hbs)
     replace hB := hB.trans (hbs.mono hB.size)
     clear hbs
     have hbn := below_new w7 (.cells #[.int .i64 (P.1), .int .i64 (P.2)] 29)
     have hF := FI.put w7 (P.1) (P.2) 29
     replace HAT := Lib.hid (HAT.out.carry hbn)
     replace MAT := Lib.hid (MAT.out.carry hbn)
     replace HH := Lib.hid (HH.out.grow hbn)
     replace BAT := Lib.hid (BAT.out.carry hbn)
     replace hB := hB.trans (hbn.mono hB.size)
     clear hbn
     obtain ⟨Bp, hBq⟩ : ∃ b, w7.heap.size = b := ⟨_, rfl⟩
     simp only [hBq] at hF ⊢
     have FP := Lib.hid hF
     clear hF
     generalize w7.alloc (.cells #[.int .i64 (P.1), .int .i64 (P.2)] 29) = W10 at *
     clear hBq
     obtain ⟨k0, k1, k2, k3⟩ := HAT.out
     obtain ⟨m0, m1, m2, m3, m4⟩ := MAT.out
     obtain ⟨b0, b1, b2, b3, b4⟩ := BAT.out
     go_upto_region 21 with (go_at_call 9; (with_reducible refine (HE2.out _ HH.out).mono ?_); rintro e w8 ⟨rfl, hbs⟩)
     clear k0 k1 k2 k3 m0 m1 m2 m3 m4 b0 b1 b2 b3 b4
     replace HAT := Lib.hid (HAT.out.carry hbs)
     replace MAT := Lib.hid (MAT.out.carry hbs)
     replace HH := Lib.hid (HH.out.grow hbs)
     replace BAT := Lib.hid (BAT.out.carry hbs)
     replace FP := Lib.hid (FP.out.carry hbs)
     replace hB := hB.trans (hbs.mono hB.size)
     clear hbs
     have hbn := below_new w8 (.cells #[.int .i64 (P.1), .int .i64 (P.2)] 29)
     have hF := FI.put w8 (P.1) (P.2) 29
     replace HAT := Lib.hid (HAT.out.carry hbn)
     replace MAT := Lib.hid (MAT.out.carry hbn)
     replace HH := Lib.hid (HH.out.grow hbn)
     replace BAT := Lib.hid (BAT.out.carry hbn)
     replace FP := Lib.hid (FP.out.carry hbn)
     replace hB := hB.trans (hbn.mono hB.size)
     clear hbn
     obtain ⟨Bq, hBq⟩ : ∃ b, w8.heap.size = b := ⟨_, rfl⟩
     simp only [hBq] at hF ⊢
     have FQ := Lib.hid hF
     clear hF
     generalize w8.alloc (.cells #[.int .i64 (P.1), .int .i64 (P.2)] 29) = W11 at *
     clear hBq
     obtain ⟨p0, p1, _, _, _⟩ := FP.out
     obtain ⟨q0, q1, _, _, _⟩ := FQ.out
     have r1 : (P.1 == P.1) = true := by simp
     have r2 : (P.2 == P.2) = true := by simp
     go_wp2_with fail
     go_ret
     exact ⟨rfl, hB⟩
    ·have p1 : (V.2.2 == 0) = false := by simpa using zv
     clear zv HC1 HC2
     clear SAT HP
     clear FV
     obtain ⟨m0, m1, m2, m3, m4⟩ := MAT.out
     have hz : w.heap.size + 1 < W6.heap.size := World.block_lt_of_cell? _ _ m0
     go_upto_region 18 with (fail)
     go_region
     all_goals go_upto_region 19 with (fail)
     clear m0 m1 m2 m3 m4
     clear hz
     have hbn : Below W6.heap.size W6 (W6.alloc (.cells #[.string m.name, .int .i64 f, .int .i64 m.spd, .int .i64 m.fall, .int .i64 m.rise] 27)).drew := (below_new _ _).drew
     have hF : MvAt (W6.alloc (.cells #[.string m.name, .int .i64 f, .int .i64 m.spd, .int .i64 m.fall, .int .i64 m.rise] 27)).drew W6.heap.size ⟨m.name, f, m.spd, m.fall, m.rise⟩ := by
      have h := MvAt.new W6 ⟨m.name, f, m.spd, m.fall, m.rise⟩ 27
      exact ⟨(World.cell?_drew _ _).trans h.1, (World.cell?_drew _ _).trans h.2.1, (World.cell?_drew _ _).trans h.2.2.1, (World.cell?_drew _ _).trans h.2.2.2.1, (World.cell?_drew _ _).trans h.2.2.2.2⟩
     replace HAT := Lib.hid (HAT.out.carry hbn)
     replace MAT := Lib.hid (MAT.out.carry hbn)
     replace HH := Lib.hid (HH.out.grow hbn)
     replace hB := hB.trans (hbn.mono hB.size)
     clear hbn
     obtain ⟨Bk, hBq⟩ : ∃ b, W6.heap.size = b := ⟨_, rfl⟩
     simp only [hBq] at hF ⊢
     have BAT := Lib.hid hF
     clear hF
     generalize (W6.alloc (.cells #[.string m.name, .int .i64 f, .int .i64 m.spd, .int .i64 m.fall, .int .i64 m.rise] 27)).drew = W9 at *
     clear hBq
     obtain ⟨k0, k1, k2, k3⟩ := HAT.out
     obtain ⟨m0, m1, m2, m3, m4⟩ := MAT.out
     go_upto_region 20 with (go_at_call 9; (with_reducible refine (HE1.out _ HH.out).mono ?_); rintro e w7 ⟨rfl, hbs⟩)
     clear k0 k1 k2 k3 m0 m1 m2 m3 m4
     replace HAT := Lib.hid (HAT.out.carry hbs)
     replace MAT := Lib.hid (MAT.out.carry hbs)
     replace HH := Lib.hid (HH.out.grow hbs)
     replace BAT := Lib.hid (BAT.out.carry hbs)
     replace hB := hB.trans (hbs.mono hB.size)
     clear hbs
     have hbn := below_new w7 (.cells #[.int .i64 (P.1), .int .i64 (P.2)] 29)
     have hF := FI.put w7 (P.1) (P.2) 29
     replace HAT := Lib.hid (HAT.out.carry hbn)
     replace MAT := Lib.hid (MAT.out.carry hbn)
     replace HH := Lib.hid (HH.out.grow hbn)
     replace BAT := Lib.hid (BAT.out.carry hbn)
     replace hB := hB.trans (hbn.mono hB.size)
     clear hbn
     obtain ⟨Bp, hBq⟩ : ∃ b, w7.heap.size = b := ⟨_, rfl⟩
     simp only [hBq] at hF ⊢
     have FP := Lib.hid hF
     clear hF
     generalize w7.alloc (.cells #[.int .i64 (P.1), .int .i64 (P.2)] 29) = W10 at *
     clear hBq
     obtain ⟨k0, k1, k2, k3⟩ := HAT.out
     obtain ⟨m0, m1, m2, m3, m4⟩ := MAT.out
     obtain ⟨b0, b1, b2, b3, b4⟩ := BAT.out
     go_upto_region 21 with (go_at_call 9; (with_reducible refine (HE2.out _ HH.out).mono ?_); rintro e w8 ⟨rfl, hbs⟩)
     clear k0 k1 k2 k3 m0 m1 m2 m3 m4 b0 b1 b2 b3 b4
     replace HAT := Lib.hid (HAT.out.carry hbs)
     replace MAT := Lib.hid (MAT.out.carry hbs)
     replace HH := Lib.hid (HH.out.grow hbs)
     replace BAT := Lib.hid (BAT.out.carry hbs)
     replace FP := Lib.hid (FP.out.carry hbs)
     replace hB := hB.trans (hbs.mono hB.size)
     clear hbs
     have hbn := below_new w8 (.cells #[.int .i64 (P.1), .int .i64 (P.2)] 29)
     have hF := FI.put w8 (P.1) (P.2) 29
     replace HAT := Lib.hid (HAT.out.carry hbn)
     replace MAT := Lib.hid (MAT.out.carry hbn)
     replace HH := Lib.hid (HH.out.grow hbn)
     replace BAT := Lib.hid (BAT.out.carry hbn)
     replace FP := Lib.hid (FP.out.carry hbn)
     replace hB := hB.trans (hbn.mono hB.size)
     clear hbn
     obtain ⟨Bq, hBq⟩ : ∃ b, w8.heap.size = b := ⟨_, rfl⟩
     simp only [hBq] at hF ⊢
     have FQ := Lib.hid hF
     clear hF
     generalize w8.alloc (.cells #[.int .i64 (P.1), .int .i64 (P.2)] 29) = W11 at *
     clear hBq
     obtain ⟨p0, p1, _, _, _⟩ := FP.out
     obtain ⟨q0, q1, _, _, _⟩ := FQ.out
     have r1 : (P.1 == P.1) = true := by simp
     have r2 : (P.2 == P.2) = true := by simp
     go_wp2_with fail
     go_ret
     exact ⟨rfl, hB⟩
  ·have HN := Lib.hid e0
   obtain ⟨E, hE⟩ : ∃ E, mgE h f m = E := ⟨_, rfl⟩
   rw [hE] at HPA
   have p1 : (E != 0) = true := by rw [← hE]; simpa using e0
   clear e0 hE ht
   go_enter Try.func6, Try.ntmps6
   go_upto_region 1 with (fail)
   have hat1 := (((HouseAt.new w h 25).carry (below_new (w.alloc (.cells #[.string h.name, .int .i64 h.height, .slice h.sa h.sets.length h.sc, .slice h.ra h.roofs.length h.rc] 25)) (.cells #[.string m.name, .int .i64 m.to, .int .i64 m.spd, .int .i64 m.rise, .int .i64 m.fall] 27))).carry (below_new ((w.alloc (.cells #[.string h.name, .int .i64 h.height, .slice h.sa h.sets.length h.sc, .slice h.ra h.roofs.length h.rc] 25)).alloc (.cells #[.string m.name, .int .i64 m.to, .int .i64 m.spd, .int .i64 m.rise, .int .i64 m.fall] 27)) (.cells #[.int .i64 s.1, .int .i64 s.2] 29)))
   have mat1 := ((MvAt.new (w.alloc (.cells #[.string h.name, .int .i64 h.height, .slice h.sa h.sets.length h.sc, .slice h.ra h.roofs.length h.rc] 25)) m 27).carry (below_new ((w.alloc (.cells #[.string h.name, .int .i64 h.height, .slice h.sa h.sets.length h.sc, .slice h.ra h.roofs.length h.rc] 25)).alloc (.cells #[.string m.name, .int .i64 m.to, .int .i64 m.spd, .int .i64 m.rise, .int .i64 m.fall] 27)) (.cells #[.int .i64 s.1, .int .i64 s.2] 29)))
   have fat0 := (FI.put ((w.alloc (.cells #[.string h.name, .int .i64 h.height, .slice h.sa h.sets.length h.sc, .slice h.ra h.roofs.length h.rc] 25)).alloc (.cells #[.string m.name, .int .i64 m.to, .int .i64 m.spd, .int .i64 m.rise, .int .i64 m.fall] 27)) s.1 s.2 29)
   have hB := (((below_new w (.cells #[.string h.name, .int .i64 h.height, .slice h.sa h.sets.length h.sc, .slice h.ra h.roofs.length h.rc] 25)).alloc (by simp) (.cells #[.string m.name, .int .i64 m.to, .int .i64 m.spd, .int .i64 m.rise, .int .i64 m.fall] 27)).alloc (by simp <;> omega) (.cells #[.int .i64 s.1, .int .i64 s.2] 29))
   have HH := Lib.hid (hh1.grow hB)
   have hm1 : (w.alloc (.cells #[.string h.name, .int .i64 h.height, .slice h.sa h.sets.length h.sc, .slice h.ra h.roofs.length h.rc] 25)).heap.size = w.heap.size + 1 := by simp
   rw [hm1] at mat1
   have hm2 : ((w.alloc (.cells #[.string h.name, .int .i64 h.height, .slice h.sa h.sets.length h.sc, .slice h.ra h.roofs.length h.rc] 25)).alloc (.cells #[.string m.name, .int .i64 m.to, .int .i64 m.spd, .int .i64 m.rise, .int .i64 m.fall] 27)).heap.size = w.heap.size + 1 + 1 := by simp
   rw [hm2] at fat0
   clear hm1 hm2
   generalize (((w.alloc (.cells #[.string h.name, .int .i64 h.height, .slice h.sa h.sets.length h.sc, .slice h.ra h.roofs.length h.rc] 25)).alloc (.cells #[.string m.name, .int .i64 m.to, .int .i64 m.spd, .int .i64 m.rise, .int .i64 m.fall] 27)).alloc (.cells #[.int .i64 s.1, .int .i64 s.2] 29)) = W0 at *
   have HAT := Lib.hid hat1
   have MAT := Lib.hid mat1
   have SAT := Lib.hid fat0
   clear hat1 mat1 fat0
   go_upto_region 3 with (go_at_call 7; (with_reducible refine (awake_any _).mono ?_); rintro e w1 ⟨rfl, hbs⟩)
   replace HAT := Lib.hid (HAT.out.carry hbs)
   replace MAT := Lib.hid (MAT.out.carry hbs)
   replace SAT := Lib.hid (SAT.out.carry hbs)
   replace HH := Lib.hid (HH.out.grow hbs)
   replace hB := hB.trans (hbs.mono hB.size)
   clear hbs
   obtain ⟨k0, k1, k2, k3⟩ := HAT.out
   obtain ⟨m0, m1, m2, m3, m4⟩ := MAT.out
   go_upto_region 5 with (go_at_call 8; (with_reducible refine (HFE.out _ HH.out.toHouseIn0).mono ?_); rintro e w2 ⟨rfl, hbs⟩)
   clear k0 k1 k2 k3 m0 m1 m2 m3 m4
   replace HAT := Lib.hid (HAT.out.carry hbs)
   replace MAT := Lib.hid (MAT.out.carry hbs)
   replace SAT := Lib.hid (SAT.out.carry hbs)
   replace HH := Lib.hid (HH.out.grow hbs)
   replace hB := hB.trans (hbs.mono hB.size)
   clear hbs
   obtain ⟨k0, k1, k2, k3⟩ := HAT.out
   obtain ⟨m0, m1, m2, m3, m4⟩ := MAT.out
   go_wp2_with (go_at_call 15; (with_reducible refine (HPA.out _ HH.out).mono ?_); rintro e w3 ⟨hx, hbs⟩; obtain ⟨v, rfl, hpv⟩ := hx.out; obtain rfl := hpv.2 HN.out)
   go_ret
   exact ⟨rfl, hB.trans (hbs.mono hB.size)⟩
end Go.Proofs.Ytbgkgahmicepdaa
