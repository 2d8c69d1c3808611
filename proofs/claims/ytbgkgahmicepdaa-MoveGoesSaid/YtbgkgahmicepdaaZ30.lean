/-
  THE WALK of move.Path.
  THE WALK of move.timed.
  THE WALK of move.At.
-/
import Derived.Laws.EntriesVeiled
import Derived.Test.YtbgkgahmicepdaaZ28
import Derived.Test.YtbgkgahmicepdaaZ29
import Derived.Test.YtbgkgahmicepdaaZ7
import Derived.Test.YtbgkgahmicepdaaZ27
namespace Go.Proofs.Ytbgkgahmicepdaa
open Go.RowKit Go.Shelf
attribute [local go_sem] Oper.semAt_some
def mixL (P : List Pc) (k : Nat) : List Pc := (List.range P.length).map fun i => if i < k then pcg P i else ⟨0, 0, 0, 0, 0, 0, 0, 0⟩
theorem mix_len (P : List Pc) (k : Nat) : (mixL P k).length = P.length := by simp [mixL]
theorem mix_at {P : List Pc} {k i : Nat} (h : i < P.length) : pcg (mixL P k) i = if i < k then pcg P i else ⟨0, 0, 0, 0, 0, 0, 0, 0⟩ := by
 rw [pcg_eq _ i (by rw [mix_len]; exact h)]
 simp [mixL]
theorem mix_zero (P : List Pc) : mixL P 0 = List.replicate P.length ⟨0, 0, 0, 0, 0, 0, 0, 0⟩ := by
 refine List.ext_getElem (by simp [mixL]) fun i h1 h2 => ?_
 simp [mixL]
theorem mix_all (P : List Pc) : mixL P P.length = P := pcg_ext _ _ (mix_len P _) fun j hj => by
 rw [mix_len] at hj
 rw [mix_at hj, if_pos hj]
theorem mix_next {P : List Pc} {k : Nat} (h : k < P.length) : (mixL P k).set k (pcg P k) = mixL P (k + 1) := pcg_ext _ _ (by rw [List.length_set, mix_len, mix_len]) fun j hj => by
 rw [List.length_set, mix_len] at hj
 rw [pcg_set (by rw [mix_len]; exact h), mix_at hj, mix_at hj]
 by_cases e : j = k
 ·subst e
  rw [if_pos rfl, if_pos (Nat.lt_succ_self _)]
 ·rw [if_neg e]
  by_cases l : j < k
  ·rw [if_pos l, if_pos (by omega)]
  ·rw [if_neg l, if_neg (by omega)]
def upB (f : Int) (m : Mv) : Bool := !decide (m.to < f)
def mpL (f : Int) (m : Mv) (t : Int) : List Pc := pathL (upB f m) f (curveL (mgD f m) m.rise m.fall t)
def PathV (w' : World) (h : HouseR) (f : Int) (m : Mv) (t : Int) (v : Value) : Prop :=
 (mgE h f m = 0 → ∃ b, v = .slice (some ⟨b, 0, none⟩) (mpL f m t).length (mpL f m t).length ∧ Pcs w'.heap.size w' (some ⟨b, 0, none⟩) (mpL f m t)) ∧ (¬ mgE h f m = 0 → v = .slice none 0 0)
set_option maxRecDepth 100000 in
set_option maxHeartbeats 32000000 in
theorem mpath_any (h : HouseR) (f : Int) (m : Mv) (t : Int) (ht : mgE h f m = 0 → IsTop (mgD f m) m.spd m.rise m.fall t) (w : World) (hh : HouseIn w h) :
  Calls Try.prog 15 #[.agg #[.string h.name, .int .i64 h.height, .slice h.sa h.sets.length h.sc, .slice h.ra h.roofs.length h.rc], .int .i64 f, .agg #[.string m.name, .int .i64 m.to, .int .i64 m.spd, .int .i64 m.rise, .int .i64 m.fall]] w fun e w' => Hid (∃ v, e = .returned (.tuple #[v, .int .i64 (mgE h f m)]) ∧ PathV w' h f m t v) ∧ Below w.heap.size w w' := by
 obtain ⟨e, he⟩ : ∃ e, mgE h f m = e := ⟨_, rfl⟩
 obtain ⟨d, hd⟩ : ∃ d, mgR h f m = d := ⟨_, rfl⟩
 have HE := Lib.hid he
 have HG : Hid (∀ w' : World, Below w.heap.size w w' → Calls Try.prog 21 #[.agg #[.string h.name, .int .i64 h.height, .slice h.sa h.sets.length h.sc, .slice h.ra h.roofs.length h.rc], .int .i64 f, .agg #[.string m.name, .int .i64 m.to, .int .i64 m.spd, .int .i64 m.rise, .int .i64 m.fall]] w' fun z w2 => z = .returned (.tuple #[.int .i64 d, .int .i64 e]) ∧ Below w'.heap.size w' w2) := Lib.hid fun w' hb => by
  have := mgiven_any h f m w' (hh.grow hb)
  rw [hd, he] at this
  exact this
 clear hh
 rw [he]
 by_cases z : e = 0
 ·subst z
  obtain ⟨_, _, f0, f1, t0, t1, gd, _, _, hD⟩ := mg_ok he
  have hT := ht he
  have hC := Curve_any (mgD f m) m t (fun _ => hT)
  have hsm := curve_small gd hT
  have hok := (move_c gd hT).ok
  obtain rfl : mgD f m = d := hD.symm.trans hd
  obtain ⟨L, hL⟩ : ∃ L, curveL (mgD f m) m.rise m.fall t = L := ⟨_, rfl⟩
  have HLL := Lib.hid hL
  have HGP := Lib.hid gd
  rw [hL] at hsm hok
  have HC := Lib.hid hC
  obtain ⟨d, hdd⟩ : ∃ d, mgD f m = d := ⟨_, rfl⟩
  rw [hdd] at HG HC HGP HLL
  have hpos := hok.pos
  have hlen := (move_c (he ▸ (mg_ok he).2.2.2.2.2.2.1) hT).len
  rw [hL] at hlen
  have HOK := Lib.hid hok
  have HSMM := Lib.hid hsm
  have hf : -1048576 ≤ f ∧ f ≤ 1048576 := by omega
  obtain ⟨i0, hi, hz0, hz1, hz2⟩ := info_parts piece_info
  have hmk : ∀ w : World, (Instr.makeSlice 43 (.int .i64 (L.length : Int)) (.int .i64 (L.length : Int))).run Try.prog w = .ok (.slice (some ⟨w.heap.size, 0, none⟩) L.length L.length) (w.alloc (.cells (madeCells #[.int .i64 0, .int .i64 0, .int .i64 0, .int .i64 0, .int .i64 0, .int .i64 0, .int .i64 0, .int .i64 0] (L.length * 8)) 69)) := fun w => by
   have := run_make (P := Try.prog) w 43 69 i0 _ Try.underlying43 hi hz0 .i64 .i64 (L.length : Int) (L.length : Int) (by omega) (Int.le_refl _) (by rw [hz2]; omega) (by omega)
   rw [hz1, Int.toNat_natCast] at this
   exact this
  have HMP : Hid (mpL f m t = pathL (upB f m) f L) := Lib.hid (by unfold mpL; rw [hL])
  clear hD hd ht gd hC hT hsm hok hL hz0 hz1 hz2 hi hdd
  cases hu : decide (m.to < f)
  ·have HU : Hid (upB f m = true) := Lib.hid (by unfold upB; rw [hu]; rfl)
   obtain ⟨Q, hQ⟩ : ∃ Q, pathL true f L = Q := ⟨_, rfl⟩
   have hql : Q.length = L.length := by rw [← hQ, path_len]
   have HQ : Hid (mpL f m t = Q) := Lib.hid (by rw [HMP.out, HU.out, hQ])
   have HST : Hid (∀ k, k < L.length → ∀ w : World, Calls Try.prog 35 #[.int .i64 f, .agg #[.int .i64 (pcg L k).f0, .int .i64 (pcg L k).f1, .int .i64 (pcg L k).a0, .int .i64 (pcg L k).a1, .int .i64 (pcg L k).b0, .int .i64 (pcg L k).b1, .int .i64 (pcg L k).c0, .int .i64 (pcg L k).c1]] w fun e w' => e = .returned (.tuple #[.agg #[.int .i64 (pcg Q k).f0, .int .i64 (pcg Q k).f1, .int .i64 (pcg Q k).a0, .int .i64 (pcg Q k).a1, .int .i64 (pcg Q k).b0, .int .i64 (pcg Q k).b1, .int .i64 (pcg Q k).c0, .int .i64 (pcg Q k).c1], .int .i64 0]) ∧ Below w.heap.size w w') := Lib.hid fun k hk w => by
    have v := HOK.out.val k hk
    have sm := HSMM.out k hk
    have hq : pcg Q k = (upP f (pcg L k)).1 := by rw [← hQ, path_at hk]; rfl
    have := up_any f (pcg L k) (by omega) (by omega) v.a  w
    rw [up_ok hf sm, ← hq] at this
    exact this
   clear hQ
   go_enter Try.func15, Try.ntmps15
   go_upto_region 1 with (fail)
   have hat1 := (HouseAt.new w h 25).carry (below_new (w.alloc (.cells #[.string h.name, .int .i64 h.height, .slice h.sa h.sets.length h.sc, .slice h.ra h.roofs.length h.rc] 25)) (.cells #[.string m.name, .int .i64 m.to, .int .i64 m.spd, .int .i64 m.rise, .int .i64 m.fall] 27))
   have mat1 := MvAt.new (w.alloc (.cells #[.string h.name, .int .i64 h.height, .slice h.sa h.sets.length h.sc, .slice h.ra h.roofs.length h.rc] 25)) m 27
   have hW0 := (below_new w (.cells #[.string h.name, .int .i64 h.height, .slice h.sa h.sets.length h.sc, .slice h.ra h.roofs.length h.rc] 25)).alloc (by simp) (.cells #[.string m.name, .int .i64 m.to, .int .i64 m.spd, .int .i64 m.rise, .int .i64 m.fall] 27)
   have hm1 : (w.alloc (.cells #[.string h.name, .int .i64 h.height, .slice h.sa h.sets.length h.sc, .slice h.ra h.roofs.length h.rc] 25)).heap.size = w.heap.size + 1 := by simp
   rw [hm1] at mat1
   generalize ((w.alloc (.cells #[.string h.name, .int .i64 h.height, .slice h.sa h.sets.length h.sc, .slice h.ra h.roofs.length h.rc] 25)).alloc (.cells #[.string m.name, .int .i64 m.to, .int .i64 m.spd, .int .i64 m.rise, .int .i64 m.fall] 27)) = W0 at *
   have HAT := Lib.hid hat1
   have MAT := Lib.hid mat1
   clear hat1 mat1 hm1
   obtain ⟨k0, k1, k2, k3⟩ := HAT.out
   obtain ⟨m0, m1, m2, m3, m4⟩ := MAT.out
   go_wp2_with (first
    | (go_at_call 21; (with_reducible refine (HG.out _ hW0).mono ?_); rintro e w1 ⟨rfl, hb1⟩; clear k0 k1 k2 k3 m0 m1 m2 m3 m4; obtain ⟨m0, m1, m2, m3, m4⟩ := MAT.out.carry hb1)
    | (go_at_call 34; (with_reducible refine (HC.out _).mono ?_); rintro e w2 ⟨hv, hb2⟩; obtain ⟨v, rfl, hrow⟩ := hv.out; rw [HGP.out]; have hr1 := hrow.1 HGP.out; rw [HLL.out] at hr1; obtain ⟨pa, pcap, rfl, _, _, _, hP⟩ := pc_of_row hr1; have HP := Lib.hid hP; clear hP hr1 hrow hv; have hb12 := hb1.trans (hb2.mono hb1.size); clear m0 m1 m2 m3 m4; obtain ⟨m0, m1, m2, m3, m4⟩ := MAT.out.carry hb12))
   clear m0 m1 m2 m3 m4 hu
   have hB2 := hW0.trans (hb12.mono hW0.size)
   have hR0 := Rowz.new w2 L.length 69
   have hbn := below_new w2 (.cells (madeCells #[.int .i64 0, .int .i64 0, .int .i64 0, .int .i64 0, .int .i64 0, .int .i64 0, .int .i64 0, .int .i64 0] (L.length * 8)) 69)
   clear hmk hb1 hb2 hb12 hW0
   obtain ⟨Bo, hBo⟩ : ∃ b, w2.heap.size = b := ⟨_, rfl⟩
   have HBo := Lib.hid hBo
   simp only [hBo] at hR0 ⊢
   clear hBo
   go_loopw [50] (fun i wr => ∃ k : Nat, k ≤ L.length ∧ i = .int .i64 k ∧ Below w2.heap.size w2 wr ∧ Rowz wr Bo (mixL Q k)) (fun i _ => L.length - (intOf i).toNat)
   case atStart => exact ⟨0, Nat.zero_le _, rfl, hbn, by rw [mix_zero, hql]; exact hR0⟩
   case round =>
    obtain ⟨k, hk, rfl, hB, hR⟩ := hrel
    by_cases hlt : k < L.length
    ·have HR := Lib.hid hR
     have HB := Lib.hid hB
     obtain ⟨b, off, rfl, hb, hc⟩ := HP.out (by omega)
     obtain ⟨c0, c1, c2, c3, c4, c5, c6, c7⟩ := hc k hlt
     replace c0 := (hB.cell (p := ⟨b, _, none⟩) hb).trans c0
     replace c1 := (hB.cell (p := ⟨b, _, none⟩) hb).trans c1
     replace c2 := (hB.cell (p := ⟨b, _, none⟩) hb).trans c2
     replace c3 := (hB.cell (p := ⟨b, _, none⟩) hb).trans c3
     replace c4 := (hB.cell (p := ⟨b, _, none⟩) hb).trans c4
     replace c5 := (hB.cell (p := ⟨b, _, none⟩) hb).trans c5
     replace c6 := (hB.cell (p := ⟨b, _, none⟩) hb).trans c6
     replace c7 := (hB.cell (p := ⟨b, _, none⟩) hb).trans c7
     have i0 : 0 ≤ (k : Int) := by omega
     have i1 : (k : Int) < (L.length : Int) := by omega
     have s1 : IntKind.i64.wrap ((k : Int) + 1) = (k : Int) + 1 := IntWalk.i64_in _ (by omega)
     have hkq : k < Q.length := by omega
     have HSK := Lib.hid (HST.out k hlt)
     have HNX : Hid ((mixL Q k).set k (pcg Q k) = mixL Q (k + 1)) := Lib.hid (mix_next hkq)
     have hmz : pcg (mixL Q k) k = ⟨0, 0, 0, 0, 0, 0, 0, 0⟩ := by rw [mix_at hkq, if_neg (Nat.lt_irrefl _)]
     have HMZ := Lib.hid hmz
     have hkm : k < (mixL Q k).length := by rw [mix_len]; exact hkq
     generalize pcg Q k = q at *
     clear hc hB hR hmz
     go_upto_region 16 with (go_at_call 35; (with_reducible refine (HSK.out _).mono ?_); rintro e w3 ⟨rfl, hb3⟩)
     clear c0 c1 c2 c3 c4 c5 c6 c7
     have hR4 := (HR.out.carry hb3).carry (below_new w3 (.cells #[.int .i64 q.f0, .int .i64 q.f1, .int .i64 q.a0, .int .i64 q.a1, .int .i64 q.b0, .int .i64 q.b1, .int .i64 q.c0, .int .i64 q.c1] 69))
     have hB4 := (HB.out.trans (hb3.mono HB.out.size)).alloc (by have := HB.out.size; have := hb3.size; omega) (.cells #[.int .i64 q.f0, .int .i64 q.f1, .int .i64 q.a0, .int .i64 q.a1, .int .i64 q.b0, .int .i64 q.b1, .int .i64 q.c0, .int .i64 q.c1] 69)
     have hp4 := PB.new w3 q 69
     obtain ⟨Bx, hBx⟩ : ∃ b, w3.heap.size = b := ⟨_, rfl⟩
     simp only [hBx] at hp4 ⊢
     generalize w3.alloc (.cells #[.int .i64 q.f0, .int .i64 q.f1, .int .i64 q.a0, .int .i64 q.a1, .int .i64 q.b0, .int .i64 q.b1, .int .i64 q.c0, .int .i64 q.c1] 69) = W4 at *
     clear hBx hb3
     have HR4 := Lib.hid hR4
     obtain ⟨d0, d1, d2, d3, d4, d5, d6, d7⟩ := hR4.cells k hkm
     simp only [HMZ.out] at d0 d1 d2 d3 d4 d5 d6 d7
     have zf := hR4.free
     obtain ⟨p0, p1, p2, p3, p4, p5, p6, p7, pf⟩ := hp4
     clear hR4
     go_wp2_with fail
     go_roundw
     case rel =>
      have hS := HR4.out.set hkm q
      rw [HNX.out] at hS
      refine ⟨k + 1, by omega, by go_num, ?_, hS⟩
      exact below_from (m := w2.heap.size) (b := Bo) (W := w2) [.int .i64 q.f0, .int .i64 q.f1, .int .i64 q.a0, .int .i64 q.a1, .int .i64 q.b0, .int .i64 q.b1, .int .i64 q.c0, .int .i64 q.c1] W4 (k * 8) hB4 (by rw [HBo.out]; exact Nat.le_refl _)
     case measure => simp [intOf]; omega
    ·obtain rfl : k = L.length := by omega
     go_wp2_with fail
     go_ret2
     have hpc := hR.pcs
     rw [← hql, mix_all] at hpc
     refine ⟨Lib.hid ⟨.slice (some ⟨Bo, 0, none⟩) L.length L.length, rfl, fun _ => ⟨Bo, by rw [HQ.out, hql], by rw [HQ.out]; exact hpc⟩, fun n => absurd HE.out n⟩, hB2.trans (hB.mono hB2.size)⟩
  ·have HU : Hid (upB f m = false) := Lib.hid (by unfold upB; rw [hu]; rfl)
   obtain ⟨Q, hQ⟩ : ∃ Q, pathL false f L = Q := ⟨_, rfl⟩
   have hql : Q.length = L.length := by rw [← hQ, path_len]
   have HQ : Hid (mpL f m t = Q) := Lib.hid (by rw [HMP.out, HU.out, hQ])
   have HST : Hid (∀ k, k < L.length → ∀ w : World, Calls Try.prog 36 #[.int .i64 f, .agg #[.int .i64 (pcg L k).f0, .int .i64 (pcg L k).f1, .int .i64 (pcg L k).a0, .int .i64 (pcg L k).a1, .int .i64 (pcg L k).b0, .int .i64 (pcg L k).b1, .int .i64 (pcg L k).c0, .int .i64 (pcg L k).c1]] w fun e w' => e = .returned (.tuple #[.agg #[.int .i64 (pcg Q k).f0, .int .i64 (pcg Q k).f1, .int .i64 (pcg Q k).a0, .int .i64 (pcg Q k).a1, .int .i64 (pcg Q k).b0, .int .i64 (pcg Q k).b1, .int .i64 (pcg Q k).c0, .int .i64 (pcg Q k).c1], .int .i64 0]) ∧ Below w.heap.size w w') := Lib.hid fun k hk w => by
    have v := HOK.out.val k hk
    have sm := HSMM.out k hk
    have hq : pcg Q k = (downP f (pcg L k)).1 := by rw [← hQ, path_at hk]; rfl
    have := down_any f (pcg L k) (by omega) (by omega) v.a (by have := sm.b; omega) (by have := sm.c; omega) w
    rw [down_ok hf sm, ← hq] at this
    exact this
   clear hQ
   go_enter Try.func15, Try.ntmps15
   go_upto_region 1 with (fail)
   have hat1 := (HouseAt.new w h 25).carry (below_new (w.alloc (.cells #[.string h.name, .int .i64 h.height, .slice h.sa h.sets.length h.sc, .slice h.ra h.roofs.length h.rc] 25)) (.cells #[.string m.name, .int .i64 m.to, .int .i64 m.spd, .int .i64 m.rise, .int .i64 m.fall] 27))
   have mat1 := MvAt.new (w.alloc (.cells #[.string h.name, .int .i64 h.height, .slice h.sa h.sets.length h.sc, .slice h.ra h.roofs.length h.rc] 25)) m 27
   have hW0 := (below_new w (.cells #[.string h.name, .int .i64 h.height, .slice h.sa h.sets.length h.sc, .slice h.ra h.roofs.length h.rc] 25)).alloc (by simp) (.cells #[.string m.name, .int .i64 m.to, .int .i64 m.spd, .int .i64 m.rise, .int .i64 m.fall] 27)
   have hm1 : (w.alloc (.cells #[.string h.name, .int .i64 h.height, .slice h.sa h.sets.length h.sc, .slice h.ra h.roofs.length h.rc] 25)).heap.size = w.heap.size + 1 := by simp
   rw [hm1] at mat1
   generalize ((w.alloc (.cells #[.string h.name, .int .i64 h.height, .slice h.sa h.sets.length h.sc, .slice h.ra h.roofs.length h.rc] 25)).alloc (.cells #[.string m.name, .int .i64 m.to, .int .i64 m.spd, .int .i64 m.rise, .int .i64 m.fall] 27)) = W0 at *
   have HAT := Lib.hid hat1
   have MAT := Lib.hid mat1
   clear hat1 mat1 hm1
   obtain ⟨k0, k1, k2, k3⟩ := HAT.out
   obtain ⟨m0, m1, m2, m3, m4⟩ := MAT.out
   go_wp2_with (first
    | (go_at_call 21; (with_reducible refine (HG.out _ hW0).mono ?_); rintro e w1 ⟨rfl, hb1⟩; clear k0 k1 k2 k3 m0 m1 m2 m3 m4; obtain ⟨m0, m1, m2, m3, m4⟩ := MAT.out.carry hb1)
    | (go_at_call 34; (with_reducible refine (HC.out _).mono ?_); rintro e w2 ⟨hv, hb2⟩; obtain ⟨v, rfl, hrow⟩ := hv.out; rw [HGP.out]; have hr1 := hrow.1 HGP.out; rw [HLL.out] at hr1; obtain ⟨pa, pcap, rfl, _, _, _, hP⟩ := pc_of_row hr1; have HP := Lib.hid hP; clear hP hr1 hrow hv; have hb12 := hb1.trans (hb2.mono hb1.size); clear m0 m1 m2 m3 m4; obtain ⟨m0, m1, m2, m3, m4⟩ := MAT.out.carry hb12))
   clear m0 m1 m2 m3 m4 hu
   have hB2 := hW0.trans (hb12.mono hW0.size)
   have hR0 := Rowz.new w2 L.length 69
   have hbn := below_new w2 (.cells (madeCells #[.int .i64 0, .int .i64 0, .int .i64 0, .int .i64 0, .int .i64 0, .int .i64 0, .int .i64 0, .int .i64 0] (L.length * 8)) 69)
   clear hmk hb1 hb2 hb12 hW0
   obtain ⟨Bo, hBo⟩ : ∃ b, w2.heap.size = b := ⟨_, rfl⟩
   have HBo := Lib.hid hBo
   simp only [hBo] at hR0 ⊢
   clear hBo
   go_loopw [50] (fun i wr => ∃ k : Nat, k ≤ L.length ∧ i = .int .i64 k ∧ Below w2.heap.size w2 wr ∧ Rowz wr Bo (mixL Q k)) (fun i _ => L.length - (intOf i).toNat)
   case atStart => exact ⟨0, Nat.zero_le _, rfl, hbn, by rw [mix_zero, hql]; exact hR0⟩
   case round =>
    obtain ⟨k, hk, rfl, hB, hR⟩ := hrel
    by_cases hlt : k < L.length
    ·have HR := Lib.hid hR
     have HB := Lib.hid hB
     obtain ⟨b, off, rfl, hb, hc⟩ := HP.out (by omega)
     obtain ⟨c0, c1, c2, c3, c4, c5, c6, c7⟩ := hc k hlt
     replace c0 := (hB.cell (p := ⟨b, _, none⟩) hb).trans c0
     replace c1 := (hB.cell (p := ⟨b, _, none⟩) hb).trans c1
     replace c2 := (hB.cell (p := ⟨b, _, none⟩) hb).trans c2
     replace c3 := (hB.cell (p := ⟨b, _, none⟩) hb).trans c3
     replace c4 := (hB.cell (p := ⟨b, _, none⟩) hb).trans c4
     replace c5 := (hB.cell (p := ⟨b, _, none⟩) hb).trans c5
     replace c6 := (hB.cell (p := ⟨b, _, none⟩) hb).trans c6
     replace c7 := (hB.cell (p := ⟨b, _, none⟩) hb).trans c7
     have i0 : 0 ≤ (k : Int) := by omega
     have i1 : (k : Int) < (L.length : Int) := by omega
     have s1 : IntKind.i64.wrap ((k : Int) + 1) = (k : Int) + 1 := IntWalk.i64_in _ (by omega)
     have hkq : k < Q.length := by omega
     have HSK := Lib.hid (HST.out k hlt)
     have HNX : Hid ((mixL Q k).set k (pcg Q k) = mixL Q (k + 1)) := Lib.hid (mix_next hkq)
     have hmz : pcg (mixL Q k) k = ⟨0, 0, 0, 0, 0, 0, 0, 0⟩ := by rw [mix_at hkq, if_neg (Nat.lt_irrefl _)]
     have HMZ := Lib.hid hmz
     have hkm : k < (mixL Q k).length := by rw [mix_len]; exact hkq
     generalize pcg Q k = q at *
     clear hc hB hR hmz
     go_upto_region 16 with (go_at_call 36; (with_reducible refine (HSK.out _).mono ?_); rintro e w3 ⟨rfl, hb3⟩)
     clear c0 c1 c2 c3 c4 c5 c6 c7
     have hR4 := (HR.out.carry hb3).carry (below_new w3 (.cells #[.int .i64 q.f0, .int .i64 q.f1, .int .i64 q.a0, .int .i64 q.a1, .int .i64 q.b0, .int .i64 q.b1, .int .i64 q.c0, .int .i64 q.c1] 69))
     have hB4 := (HB.out.trans (hb3.mono HB.out.size)).alloc (by have := HB.out.size; have := hb3.size; omega) (.cells #[.int .i64 q.f0, .int .i64 q.f1, .int .i64 q.a0, .int .i64 q.a1, .int .i64 q.b0, .int .i64 q.b1, .int .i64 q.c0, .int .i64 q.c1] 69)
     have hp4 := PB.new w3 q 69
     obtain ⟨Bx, hBx⟩ : ∃ b, w3.heap.size = b := ⟨_, rfl⟩
     simp only [hBx] at hp4 ⊢
     generalize w3.alloc (.cells #[.int .i64 q.f0, .int .i64 q.f1, .int .i64 q.a0, .int .i64 q.a1, .int .i64 q.b0, .int .i64 q.b1, .int .i64 q.c0, .int .i64 q.c1] 69) = W4 at *
     clear hBx hb3
     have HR4 := Lib.hid hR4
     obtain ⟨d0, d1, d2, d3, d4, d5, d6, d7⟩ := hR4.cells k hkm
     simp only [HMZ.out] at d0 d1 d2 d3 d4 d5 d6 d7
     have zf := hR4.free
     obtain ⟨p0, p1, p2, p3, p4, p5, p6, p7, pf⟩ := hp4
     clear hR4
     go_wp2_with fail
     go_roundw
     case rel =>
      have hS := HR4.out.set hkm q
      rw [HNX.out] at hS
      refine ⟨k + 1, by omega, by go_num, ?_, hS⟩
      exact below_from (m := w2.heap.size) (b := Bo) (W := w2) [.int .i64 q.f0, .int .i64 q.f1, .int .i64 q.a0, .int .i64 q.a1, .int .i64 q.b0, .int .i64 q.b1, .int .i64 q.c0, .int .i64 q.c1] W4 (k * 8) hB4 (by rw [HBo.out]; exact Nat.le_refl _)
     case measure => simp [intOf]; omega
    ·obtain rfl : k = L.length := by omega
     go_wp2_with fail
     go_ret2
     have hpc := hR.pcs
     rw [← hql, mix_all] at hpc
     refine ⟨Lib.hid ⟨.slice (some ⟨Bo, 0, none⟩) L.length L.length, rfl, fun _ => ⟨Bo, by rw [HQ.out, hql], by rw [HQ.out]; exact hpc⟩, fun n => absurd HE.out n⟩, hB2.trans (hB.mono hB2.size)⟩
 ·have z1 : (e != 0) = true := by simpa using z
  have HN : Hid (¬ mgE h f m = 0) := Lib.hid (by rw [he]; exact z)
  clear z he hd ht
  go_enter Try.func15, Try.ntmps15
  go_upto_region 1 with (fail)
  have hat1 := (HouseAt.new w h 25).carry (below_new (w.alloc (.cells #[.string h.name, .int .i64 h.height, .slice h.sa h.sets.length h.sc, .slice h.ra h.roofs.length h.rc] 25)) (.cells #[.string m.name, .int .i64 m.to, .int .i64 m.spd, .int .i64 m.rise, .int .i64 m.fall] 27))
  have mat1 := MvAt.new (w.alloc (.cells #[.string h.name, .int .i64 h.height, .slice h.sa h.sets.length h.sc, .slice h.ra h.roofs.length h.rc] 25)) m 27
  have hW0 := (below_new w (.cells #[.string h.name, .int .i64 h.height, .slice h.sa h.sets.length h.sc, .slice h.ra h.roofs.length h.rc] 25)).alloc (by simp) (.cells #[.string m.name, .int .i64 m.to, .int .i64 m.spd, .int .i64 m.rise, .int .i64 m.fall] 27)
  have hm1 : (w.alloc (.cells #[.string h.name, .int .i64 h.height, .slice h.sa h.sets.length h.sc, .slice h.ra h.roofs.length h.rc] 25)).heap.size = w.heap.size + 1 := by simp
  rw [hm1] at mat1
  generalize ((w.alloc (.cells #[.string h.name, .int .i64 h.height, .slice h.sa h.sets.length h.sc, .slice h.ra h.roofs.length h.rc] 25)).alloc (.cells #[.string m.name, .int .i64 m.to, .int .i64 m.spd, .int .i64 m.rise, .int .i64 m.fall] 27)) = W0 at *
  have HAT := Lib.hid hat1
  have MAT := Lib.hid mat1
  clear hat1 mat1 hm1
  obtain ⟨k0, k1, k2, k3⟩ := HAT.out
  obtain ⟨m0, m1, m2, m3, m4⟩ := MAT.out
  go_wp2_with (go_at_call 21; (with_reducible refine (HG.out _ hW0).mono ?_); rintro e w1 ⟨rfl, hb1⟩; clear k0 k1 k2 k3 m0 m1 m2 m3 m4; obtain ⟨m0, m1, m2, m3, m4⟩ := MAT.out.carry hb1)
  go_ret2
  exact ⟨Lib.hid ⟨.slice none 0 0, rfl, fun q => absurd q HN.out, fun _ => rfl⟩, hW0.trans (hb1.mono hW0.size)⟩
end Go.Proofs.Ytbgkgahmicepdaa
namespace Go.Proofs.Ytbgkgahmicepdaa
open Go.RowKit Go.Shelf
attribute [local go_sem] Oper.semAt_some
open Classical in
noncomputable def mtE (h : HouseR) (f : Int) (m : Mv) (T : Int × Int) : Int := if houseB h = true ∧ validM m = true ∧ vF T = true then (if mgE h f m = 0 then (if T.1 < 0 then 2 else 0) else mgE h f m) else 1
def TimedV (w' : World) (h : HouseR) (f : Int) (m : Mv) (t : Int) (T : Int × Int) (v : Value) : Prop :=
 (mtE h f m T = 0 → ∃ b, v = .slice (some ⟨b, 0, none⟩) (mpL f m t).length (mpL f m t).length ∧ Pcs w'.heap.size w' (some ⟨b, 0, none⟩) (mpL f m t)) ∧ (¬ mtE h f m T = 0 → v = .slice none 0 0)
theorem mt_ok {h : HouseR} {f : Int} {m : Mv} {T : Int × Int} (e : mtE h f m T = 0) : mgE h f m = 0 ∧ vF T = true ∧ 0 ≤ T.1 := by
 unfold mtE at e
 by_cases c : houseB h = true ∧ validM m = true ∧ vF T = true
 ·rw [if_pos c] at e
  by_cases g : mgE h f m = 0
  ·rw [if_pos g] at e
   by_cases n : T.1 < 0
   ·rw [if_pos n] at e; cases e
   ·exact ⟨g, c.2.2, by omega⟩
  ·rw [if_neg g] at e; exact absurd e g
 ·rw [if_neg c] at e; cases e
set_option maxRecDepth 100000 in
set_option maxHeartbeats 32000000 in
theorem mtimed_any (h : HouseR) (f : Int) (m : Mv) (T : Int × Int) (t : Int) (ht : mgE h f m = 0 → IsTop (mgD f m) m.spd m.rise m.fall t) (w : World) (hh : HouseIn w h) :
  Calls Try.prog 23 #[.agg #[.string h.name, .int .i64 h.height, .slice h.sa h.sets.length h.sc, .slice h.ra h.roofs.length h.rc], .int .i64 f, .agg #[.string m.name, .int .i64 m.to, .int .i64 m.spd, .int .i64 m.rise, .int .i64 m.fall], .agg #[.int .i64 T.1, .int .i64 T.2]] w fun e w' => Hid (∃ v, e = .returned (.tuple #[v, .int .i64 (mtE h f m T)]) ∧ TimedV w' h f m t T v) ∧ Below w.heap.size w w' := by
 have HHV : Hid (∀ w' : World, Below w.heap.size w w' → Calls Try.prog 48 #[.agg #[.string h.name, .int .i64 h.height, .slice h.sa h.sets.length h.sc, .slice h.ra h.roofs.length h.rc]] w' fun e w2 => e = .returned (.bool (houseB h)) ∧ Below w'.heap.size w' w2) := Lib.hid fun w' hb => housevalid_any h w' (hh.grow hb)
 have HPA : Hid (∀ w' : World, Below w.heap.size w w' → Calls Try.prog 15 #[.agg #[.string h.name, .int .i64 h.height, .slice h.sa h.sets.length h.sc, .slice h.ra h.roofs.length h.rc], .int .i64 f, .agg #[.string m.name, .int .i64 m.to, .int .i64 m.spd, .int .i64 m.rise, .int .i64 m.fall]] w' fun e w2 => Hid (∃ v, e = .returned (.tuple #[v, .int .i64 (mgE h f m)]) ∧ PathV w2 h f m t v) ∧ Below w'.heap.size w' w2) := Lib.hid fun w' hb => mpath_any h f m t ht w' (hh.grow hb)
 clear hh ht
 cases h1 : houseB h
 case false =>
  have H1 := Lib.hid h1
  have HO : Hid (mtE h f m T = 1) := Lib.hid (by unfold mtE; rw [if_neg (fun q => by rw [h1] at q; exact absurd q.1 (by decide))])
  clear h1
  go_enter Try.func23, Try.ntmps23
  go_upto_region 1 with (fail)
  have hat1 := ((HouseAt.new w h 25).carry (below_new (w.alloc (.cells #[.string h.name, .int .i64 h.height, .slice h.sa h.sets.length h.sc, .slice h.ra h.roofs.length h.rc] 25)) (.cells #[.string m.name, .int .i64 m.to, .int .i64 m.spd, .int .i64 m.rise, .int .i64 m.fall] 27))).carry (below_new ((w.alloc (.cells #[.string h.name, .int .i64 h.height, .slice h.sa h.sets.length h.sc, .slice h.ra h.roofs.length h.rc] 25)).alloc (.cells #[.string m.name, .int .i64 m.to, .int .i64 m.spd, .int .i64 m.rise, .int .i64 m.fall] 27)) (.cells #[.int .i64 T.1, .int .i64 T.2] 29))
  have mat1 := (MvAt.new (w.alloc (.cells #[.string h.name, .int .i64 h.height, .slice h.sa h.sets.length h.sc, .slice h.ra h.roofs.length h.rc] 25)) m 27).carry (below_new ((w.alloc (.cells #[.string h.name, .int .i64 h.height, .slice h.sa h.sets.length h.sc, .slice h.ra h.roofs.length h.rc] 25)).alloc (.cells #[.string m.name, .int .i64 m.to, .int .i64 m.spd, .int .i64 m.rise, .int .i64 m.fall] 27)) (.cells #[.int .i64 T.1, .int .i64 T.2] 29))
  have tat1 := FI.put ((w.alloc (.cells #[.string h.name, .int .i64 h.height, .slice h.sa h.sets.length h.sc, .slice h.ra h.roofs.length h.rc] 25)).alloc (.cells #[.string m.name, .int .i64 m.to, .int .i64 m.spd, .int .i64 m.rise, .int .i64 m.fall] 27)) T.1 T.2 29
  have hW0 := ((below_new w (.cells #[.string h.name, .int .i64 h.height, .slice h.sa h.sets.length h.sc, .slice h.ra h.roofs.length h.rc] 25)).alloc (by simp) (.cells #[.string m.name, .int .i64 m.to, .int .i64 m.spd, .int .i64 m.rise, .int .i64 m.fall] 27)).alloc (by simp <;> omega) (.cells #[.int .i64 T.1, .int .i64 T.2] 29)
  have hm1 : (w.alloc (.cells #[.string h.name, .int .i64 h.height, .slice h.sa h.sets.length h.sc, .slice h.ra h.roofs.length h.rc] 25)).heap.size = w.heap.size + 1 := by simp
  have hm2 : ((w.alloc (.cells #[.string h.name, .int .i64 h.height, .slice h.sa h.sets.length h.sc, .slice h.ra h.roofs.length h.rc] 25)).alloc (.cells #[.string m.name, .int .i64 m.to, .int .i64 m.spd, .int .i64 m.rise, .int .i64 m.fall] 27)).heap.size = w.heap.size + 1 + 1 := by simp
  rw [hm1] at mat1
  rw [hm2] at tat1
  generalize (((w.alloc (.cells #[.string h.name, .int .i64 h.height, .slice h.sa h.sets.length h.sc, .slice h.ra h.roofs.length h.rc] 25)).alloc (.cells #[.string m.name, .int .i64 m.to, .int .i64 m.spd, .int .i64 m.rise, .int .i64 m.fall] 27)).alloc (.cells #[.int .i64 T.1, .int .i64 T.2] 29)) = W0 at *
  have HAT := Lib.hid hat1
  have MAT := Lib.hid mat1
  have TAT := Lib.hid tat1
  clear hat1 mat1 tat1 hm1 hm2
  obtain ⟨k0, k1, k2, k3⟩ := HAT.out
  obtain ⟨m0, m1, m2, m3, m4⟩ := MAT.out
  obtain ⟨t0, t1, _⟩ := TAT.out
  go_wp2_with (first
    | (go_at_call 48; (with_reducible refine (HHV.out _ hW0).mono ?_); rintro e w1 ⟨rfl, hb1⟩; rw [H1.out]; clear k0 k1 k2 k3 m0 m1 m2 m3 m4 t0 t1; obtain ⟨k0, k1, k2, k3⟩ := HAT.out.carry hb1; obtain ⟨m0, m1, m2, m3, m4⟩ := MAT.out.carry hb1; obtain ⟨t0, t1, _⟩ := TAT.out.carry hb1))
  go_ret2
  exact ⟨Lib.hid ⟨.slice none 0 0, by rw [HO.out]; rfl, fun q => absurd (HO.out.symm.trans q) (by decide), fun _ => rfl⟩, hW0.trans (hb1.mono hW0.size)⟩
 have H1 := Lib.hid h1
 cases h2 : validM m
 case false =>
  have H2 := Lib.hid h2
  have HO : Hid (mtE h f m T = 1) := Lib.hid (by unfold mtE; rw [if_neg (fun q => by rw [h2] at q; exact absurd q.2.1 (by decide))])
  clear h1 h2
  go_enter Try.func23, Try.ntmps23
  go_upto_region 1 with (fail)
  have hat1 := ((HouseAt.new w h 25).carry (below_new (w.alloc (.cells #[.string h.name, .int .i64 h.height, .slice h.sa h.sets.length h.sc, .slice h.ra h.roofs.length h.rc] 25)) (.cells #[.string m.name, .int .i64 m.to, .int .i64 m.spd, .int .i64 m.rise, .int .i64 m.fall] 27))).carry (below_new ((w.alloc (.cells #[.string h.name, .int .i64 h.height, .slice h.sa h.sets.length h.sc, .slice h.ra h.roofs.length h.rc] 25)).alloc (.cells #[.string m.name, .int .i64 m.to, .int .i64 m.spd, .int .i64 m.rise, .int .i64 m.fall] 27)) (.cells #[.int .i64 T.1, .int .i64 T.2] 29))
  have mat1 := (MvAt.new (w.alloc (.cells #[.string h.name, .int .i64 h.height, .slice h.sa h.sets.length h.sc, .slice h.ra h.roofs.length h.rc] 25)) m 27).carry (below_new ((w.alloc (.cells #[.string h.name, .int .i64 h.height, .slice h.sa h.sets.length h.sc, .slice h.ra h.roofs.length h.rc] 25)).alloc (.cells #[.string m.name, .int .i64 m.to, .int .i64 m.spd, .int .i64 m.rise, .int .i64 m.fall] 27)) (.cells #[.int .i64 T.1, .int .i64 T.2] 29))
  have tat1 := FI.put ((w.alloc (.cells #[.string h.name, .int .i64 h.height, .slice h.sa h.sets.length h.sc, .slice h.ra h.roofs.length h.rc] 25)).alloc (.cells #[.string m.name, .int .i64 m.to, .int .i64 m.spd, .int .i64 m.rise, .int .i64 m.fall] 27)) T.1 T.2 29
  have hW0 := ((below_new w (.cells #[.string h.name, .int .i64 h.height, .slice h.sa h.sets.length h.sc, .slice h.ra h.roofs.length h.rc] 25)).alloc (by simp) (.cells #[.string m.name, .int .i64 m.to, .int .i64 m.spd, .int .i64 m.rise, .int .i64 m.fall] 27)).alloc (by simp <;> omega) (.cells #[.int .i64 T.1, .int .i64 T.2] 29)
  have hm1 : (w.alloc (.cells #[.string h.name, .int .i64 h.height, .slice h.sa h.sets.length h.sc, .slice h.ra h.roofs.length h.rc] 25)).heap.size = w.heap.size + 1 := by simp
  have hm2 : ((w.alloc (.cells #[.string h.name, .int .i64 h.height, .slice h.sa h.sets.length h.sc, .slice h.ra h.roofs.length h.rc] 25)).alloc (.cells #[.string m.name, .int .i64 m.to, .int .i64 m.spd, .int .i64 m.rise, .int .i64 m.fall] 27)).heap.size = w.heap.size + 1 + 1 := by simp
  rw [hm1] at mat1
  rw [hm2] at tat1
  generalize (((w.alloc (.cells #[.string h.name, .int .i64 h.height, .slice h.sa h.sets.length h.sc, .slice h.ra h.roofs.length h.rc] 25)).alloc (.cells #[.string m.name, .int .i64 m.to, .int .i64 m.spd, .int .i64 m.rise, .int .i64 m.fall] 27)).alloc (.cells #[.int .i64 T.1, .int .i64 T.2] 29)) = W0 at *
  have HAT := Lib.hid hat1
  have MAT := Lib.hid mat1
  have TAT := Lib.hid tat1
  clear hat1 mat1 tat1 hm1 hm2
  obtain ⟨k0, k1, k2, k3⟩ := HAT.out
  obtain ⟨m0, m1, m2, m3, m4⟩ := MAT.out
  obtain ⟨t0, t1, _⟩ := TAT.out
  go_wp2_with (first
    | (go_at_call 48; (with_reducible refine (HHV.out _ hW0).mono ?_); rintro e w1 ⟨rfl, hb1⟩; rw [H1.out]; clear k0 k1 k2 k3 m0 m1 m2 m3 m4 t0 t1; obtain ⟨k0, k1, k2, k3⟩ := HAT.out.carry hb1; obtain ⟨m0, m1, m2, m3, m4⟩ := MAT.out.carry hb1; obtain ⟨t0, t1, _⟩ := TAT.out.carry hb1)
    | (go_at_call 49; (with_reducible refine (valid_anyM m _).mono ?_); rintro e w2 ⟨rfl, hb2⟩; rw [H2.out]; have hb12 := hb1.trans (hb2.mono hb1.size); clear k0 k1 k2 k3 m0 m1 m2 m3 m4 t0 t1; obtain ⟨k0, k1, k2, k3⟩ := HAT.out.carry hb12; obtain ⟨m0, m1, m2, m3, m4⟩ := MAT.out.carry hb12; obtain ⟨t0, t1, _⟩ := TAT.out.carry hb12))
  go_ret2
  exact ⟨Lib.hid ⟨.slice none 0 0, by rw [HO.out]; rfl, fun q => absurd (HO.out.symm.trans q) (by decide), fun _ => rfl⟩, hW0.trans (hb12.mono hW0.size)⟩
 have H2 := Lib.hid h2
 cases h3 : validF T.1 T.2
 case false =>
  have H3 := Lib.hid h3
  have HO : Hid (mtE h f m T = 1) := Lib.hid (by
   unfold mtE
   rw [if_neg (fun q => by
    have q3 : validF T.1 T.2 = true := q.2.2
    rw [h3] at q3
    cases q3)])
  clear h1 h2 h3
  go_enter Try.func23, Try.ntmps23
  go_upto_region 1 with (fail)
  have hat1 := ((HouseAt.new w h 25).carry (below_new (w.alloc (.cells #[.string h.name, .int .i64 h.height, .slice h.sa h.sets.length h.sc, .slice h.ra h.roofs.length h.rc] 25)) (.cells #[.string m.name, .int .i64 m.to, .int .i64 m.spd, .int .i64 m.rise, .int .i64 m.fall] 27))).carry (below_new ((w.alloc (.cells #[.string h.name, .int .i64 h.height, .slice h.sa h.sets.length h.sc, .slice h.ra h.roofs.length h.rc] 25)).alloc (.cells #[.string m.name, .int .i64 m.to, .int .i64 m.spd, .int .i64 m.rise, .int .i64 m.fall] 27)) (.cells #[.int .i64 T.1, .int .i64 T.2] 29))
  have mat1 := (MvAt.new (w.alloc (.cells #[.string h.name, .int .i64 h.height, .slice h.sa h.sets.length h.sc, .slice h.ra h.roofs.length h.rc] 25)) m 27).carry (below_new ((w.alloc (.cells #[.string h.name, .int .i64 h.height, .slice h.sa h.sets.length h.sc, .slice h.ra h.roofs.length h.rc] 25)).alloc (.cells #[.string m.name, .int .i64 m.to, .int .i64 m.spd, .int .i64 m.rise, .int .i64 m.fall] 27)) (.cells #[.int .i64 T.1, .int .i64 T.2] 29))
  have tat1 := FI.put ((w.alloc (.cells #[.string h.name, .int .i64 h.height, .slice h.sa h.sets.length h.sc, .slice h.ra h.roofs.length h.rc] 25)).alloc (.cells #[.string m.name, .int .i64 m.to, .int .i64 m.spd, .int .i64 m.rise, .int .i64 m.fall] 27)) T.1 T.2 29
  have hW0 := ((below_new w (.cells #[.string h.name, .int .i64 h.height, .slice h.sa h.sets.length h.sc, .slice h.ra h.roofs.length h.rc] 25)).alloc (by simp) (.cells #[.string m.name, .int .i64 m.to, .int .i64 m.spd, .int .i64 m.rise, .int .i64 m.fall] 27)).alloc (by simp <;> omega) (.cells #[.int .i64 T.1, .int .i64 T.2] 29)
  have hm1 : (w.alloc (.cells #[.string h.name, .int .i64 h.height, .slice h.sa h.sets.length h.sc, .slice h.ra h.roofs.length h.rc] 25)).heap.size = w.heap.size + 1 := by simp
  have hm2 : ((w.alloc (.cells #[.string h.name, .int .i64 h.height, .slice h.sa h.sets.length h.sc, .slice h.ra h.roofs.length h.rc] 25)).alloc (.cells #[.string m.name, .int .i64 m.to, .int .i64 m.spd, .int .i64 m.rise, .int .i64 m.fall] 27)).heap.size = w.heap.size + 1 + 1 := by simp
  rw [hm1] at mat1
  rw [hm2] at tat1
  generalize (((w.alloc (.cells #[.string h.name, .int .i64 h.height, .slice h.sa h.sets.length h.sc, .slice h.ra h.roofs.length h.rc] 25)).alloc (.cells #[.string m.name, .int .i64 m.to, .int .i64 m.spd, .int .i64 m.rise, .int .i64 m.fall] 27)).alloc (.cells #[.int .i64 T.1, .int .i64 T.2] 29)) = W0 at *
  have HAT := Lib.hid hat1
  have MAT := Lib.hid mat1
  have TAT := Lib.hid tat1
  clear hat1 mat1 tat1 hm1 hm2
  obtain ⟨k0, k1, k2, k3⟩ := HAT.out
  obtain ⟨m0, m1, m2, m3, m4⟩ := MAT.out
  obtain ⟨t0, t1, _⟩ := TAT.out
  go_wp2_with (first
    | (go_at_call 48; (with_reducible refine (HHV.out _ hW0).mono ?_); rintro e w1 ⟨rfl, hb1⟩; rw [H1.out]; clear k0 k1 k2 k3 m0 m1 m2 m3 m4 t0 t1; obtain ⟨k0, k1, k2, k3⟩ := HAT.out.carry hb1; obtain ⟨m0, m1, m2, m3, m4⟩ := MAT.out.carry hb1; obtain ⟨t0, t1, _⟩ := TAT.out.carry hb1)
    | (go_at_call 49; (with_reducible refine (valid_anyM m _).mono ?_); rintro e w2 ⟨rfl, hb2⟩; rw [H2.out]; have hb12 := hb1.trans (hb2.mono hb1.size); clear k0 k1 k2 k3 m0 m1 m2 m3 m4 t0 t1; obtain ⟨k0, k1, k2, k3⟩ := HAT.out.carry hb12; obtain ⟨m0, m1, m2, m3, m4⟩ := MAT.out.carry hb12; obtain ⟨t0, t1, _⟩ := TAT.out.carry hb12)
    | (go_at_call 25; (with_reducible refine (valid_any T.1 T.2 _).mono ?_); rintro e w3 ⟨rfl, hb3⟩; rw [H3.out]; have hb13 := hb12.trans (hb3.mono hb12.size); clear k0 k1 k2 k3 m0 m1 m2 m3 m4 t0 t1; obtain ⟨k0, k1, k2, k3⟩ := HAT.out.carry hb13; obtain ⟨m0, m1, m2, m3, m4⟩ := MAT.out.carry hb13; obtain ⟨t0, t1, _⟩ := TAT.out.carry hb13))
  go_ret2
  exact ⟨Lib.hid ⟨.slice none 0 0, by rw [HO.out]; rfl, fun q => absurd (HO.out.symm.trans q) (by decide), fun _ => rfl⟩, hW0.trans (hb13.mono hW0.size)⟩
 have H3 := Lib.hid h3
 have HOO : Hid (mtE h f m T = if mgE h f m = 0 then (if T.1 < 0 then 2 else 0) else mgE h f m) := Lib.hid (by unfold mtE; rw [if_pos ⟨h1, h2, h3⟩])
 clear h1 h2 h3
 obtain ⟨e, he⟩ : ∃ e, mgE h f m = e := ⟨_, rfl⟩
 have HGE := Lib.hid he
 by_cases z : e = 0
 ·subst z
  by_cases n : T.1 < 0
  ·have g := decide_eq_true n
   have HO : Hid (mtE h f m T = 2) := Lib.hid (by rw [HOO.out, if_pos he, if_pos n])
   clear n he
   go_enter Try.func23, Try.ntmps23
   go_upto_region 1 with (fail)
   have hat1 := ((HouseAt.new w h 25).carry (below_new (w.alloc (.cells #[.string h.name, .int .i64 h.height, .slice h.sa h.sets.length h.sc, .slice h.ra h.roofs.length h.rc] 25)) (.cells #[.string m.name, .int .i64 m.to, .int .i64 m.spd, .int .i64 m.rise, .int .i64 m.fall] 27))).carry (below_new ((w.alloc (.cells #[.string h.name, .int .i64 h.height, .slice h.sa h.sets.length h.sc, .slice h.ra h.roofs.length h.rc] 25)).alloc (.cells #[.string m.name, .int .i64 m.to, .int .i64 m.spd, .int .i64 m.rise, .int .i64 m.fall] 27)) (.cells #[.int .i64 T.1, .int .i64 T.2] 29))
   have mat1 := (MvAt.new (w.alloc (.cells #[.string h.name, .int .i64 h.height, .slice h.sa h.sets.length h.sc, .slice h.ra h.roofs.length h.rc] 25)) m 27).carry (below_new ((w.alloc (.cells #[.string h.name, .int .i64 h.height, .slice h.sa h.sets.length h.sc, .slice h.ra h.roofs.length h.rc] 25)).alloc (.cells #[.string m.name, .int .i64 m.to, .int .i64 m.spd, .int .i64 m.rise, .int .i64 m.fall] 27)) (.cells #[.int .i64 T.1, .int .i64 T.2] 29))
   have tat1 := FI.put ((w.alloc (.cells #[.string h.name, .int .i64 h.height, .slice h.sa h.sets.length h.sc, .slice h.ra h.roofs.length h.rc] 25)).alloc (.cells #[.string m.name, .int .i64 m.to, .int .i64 m.spd, .int .i64 m.rise, .int .i64 m.fall] 27)) T.1 T.2 29
   have hW0 := ((below_new w (.cells #[.string h.name, .int .i64 h.height, .slice h.sa h.sets.length h.sc, .slice h.ra h.roofs.length h.rc] 25)).alloc (by simp) (.cells #[.string m.name, .int .i64 m.to, .int .i64 m.spd, .int .i64 m.rise, .int .i64 m.fall] 27)).alloc (by simp <;> omega) (.cells #[.int .i64 T.1, .int .i64 T.2] 29)
   have hm1 : (w.alloc (.cells #[.string h.name, .int .i64 h.height, .slice h.sa h.sets.length h.sc, .slice h.ra h.roofs.length h.rc] 25)).heap.size = w.heap.size + 1 := by simp
   have hm2 : ((w.alloc (.cells #[.string h.name, .int .i64 h.height, .slice h.sa h.sets.length h.sc, .slice h.ra h.roofs.length h.rc] 25)).alloc (.cells #[.string m.name, .int .i64 m.to, .int .i64 m.spd, .int .i64 m.rise, .int .i64 m.fall] 27)).heap.size = w.heap.size + 1 + 1 := by simp
   rw [hm1] at mat1
   rw [hm2] at tat1
   generalize (((w.alloc (.cells #[.string h.name, .int .i64 h.height, .slice h.sa h.sets.length h.sc, .slice h.ra h.roofs.length h.rc] 25)).alloc (.cells #[.string m.name, .int .i64 m.to, .int .i64 m.spd, .int .i64 m.rise, .int .i64 m.fall] 27)).alloc (.cells #[.int .i64 T.1, .int .i64 T.2] 29)) = W0 at *
   have HAT := Lib.hid hat1
   have MAT := Lib.hid mat1
   have TAT := Lib.hid tat1
   clear hat1 mat1 tat1 hm1 hm2
   obtain ⟨k0, k1, k2, k3⟩ := HAT.out
   obtain ⟨m0, m1, m2, m3, m4⟩ := MAT.out
   obtain ⟨t0, t1, _⟩ := TAT.out
   go_wp2_with (first
    | (go_at_call 48; (with_reducible refine (HHV.out _ hW0).mono ?_); rintro e w1 ⟨rfl, hb1⟩; rw [H1.out]; clear k0 k1 k2 k3 m0 m1 m2 m3 m4 t0 t1; obtain ⟨k0, k1, k2, k3⟩ := HAT.out.carry hb1; obtain ⟨m0, m1, m2, m3, m4⟩ := MAT.out.carry hb1; obtain ⟨t0, t1, _⟩ := TAT.out.carry hb1)
    | (go_at_call 49; (with_reducible refine (valid_anyM m _).mono ?_); rintro e w2 ⟨rfl, hb2⟩; rw [H2.out]; have hb12 := hb1.trans (hb2.mono hb1.size); clear k0 k1 k2 k3 m0 m1 m2 m3 m4 t0 t1; obtain ⟨k0, k1, k2, k3⟩ := HAT.out.carry hb12; obtain ⟨m0, m1, m2, m3, m4⟩ := MAT.out.carry hb12; obtain ⟨t0, t1, _⟩ := TAT.out.carry hb12)
    | (go_at_call 25; (with_reducible refine (valid_any T.1 T.2 _).mono ?_); rintro e w3 ⟨rfl, hb3⟩; rw [H3.out]; have hb13 := hb12.trans (hb3.mono hb12.size); clear k0 k1 k2 k3 m0 m1 m2 m3 m4 t0 t1; obtain ⟨k0, k1, k2, k3⟩ := HAT.out.carry hb13; obtain ⟨m0, m1, m2, m3, m4⟩ := MAT.out.carry hb13; obtain ⟨t0, t1, _⟩ := TAT.out.carry hb13)
    | (go_at_call 15; (with_reducible refine (HPA.out _ (hW0.trans (hb13.mono hW0.size))).mono ?_); rintro e w4 ⟨hv, hb4⟩; obtain ⟨v, rfl, hpv⟩ := hv.out; rw [HGE.out]; have hb14 := hb13.trans (hb4.mono hb13.size); clear k0 k1 k2 k3 m0 m1 m2 m3 m4 t0 t1; obtain ⟨k0, k1, k2, k3⟩ := HAT.out.carry hb14; obtain ⟨m0, m1, m2, m3, m4⟩ := MAT.out.carry hb14; obtain ⟨t0, t1, _⟩ := TAT.out.carry hb14))
   go_ret2
   exact ⟨Lib.hid ⟨.slice none 0 0, by rw [HO.out]; rfl, fun q => absurd (HO.out.symm.trans q) (by decide), fun _ => rfl⟩, hW0.trans (hb14.mono hW0.size)⟩
  ·have g := decide_eq_false n
   have HO : Hid (mtE h f m T = 0) := Lib.hid (by rw [HOO.out, if_pos he, if_neg n])
   clear n he
   go_enter Try.func23, Try.ntmps23
   go_upto_region 1 with (fail)
   have hat1 := ((HouseAt.new w h 25).carry (below_new (w.alloc (.cells #[.string h.name, .int .i64 h.height, .slice h.sa h.sets.length h.sc, .slice h.ra h.roofs.length h.rc] 25)) (.cells #[.string m.name, .int .i64 m.to, .int .i64 m.spd, .int .i64 m.rise, .int .i64 m.fall] 27))).carry (below_new ((w.alloc (.cells #[.string h.name, .int .i64 h.height, .slice h.sa h.sets.length h.sc, .slice h.ra h.roofs.length h.rc] 25)).alloc (.cells #[.string m.name, .int .i64 m.to, .int .i64 m.spd, .int .i64 m.rise, .int .i64 m.fall] 27)) (.cells #[.int .i64 T.1, .int .i64 T.2] 29))
   have mat1 := (MvAt.new (w.alloc (.cells #[.string h.name, .int .i64 h.height, .slice h.sa h.sets.length h.sc, .slice h.ra h.roofs.length h.rc] 25)) m 27).carry (below_new ((w.alloc (.cells #[.string h.name, .int .i64 h.height, .slice h.sa h.sets.length h.sc, .slice h.ra h.roofs.length h.rc] 25)).alloc (.cells #[.string m.name, .int .i64 m.to, .int .i64 m.spd, .int .i64 m.rise, .int .i64 m.fall] 27)) (.cells #[.int .i64 T.1, .int .i64 T.2] 29))
   have tat1 := FI.put ((w.alloc (.cells #[.string h.name, .int .i64 h.height, .slice h.sa h.sets.length h.sc, .slice h.ra h.roofs.length h.rc] 25)).alloc (.cells #[.string m.name, .int .i64 m.to, .int .i64 m.spd, .int .i64 m.rise, .int .i64 m.fall] 27)) T.1 T.2 29
   have hW0 := ((below_new w (.cells #[.string h.name, .int .i64 h.height, .slice h.sa h.sets.length h.sc, .slice h.ra h.roofs.length h.rc] 25)).alloc (by simp) (.cells #[.string m.name, .int .i64 m.to, .int .i64 m.spd, .int .i64 m.rise, .int .i64 m.fall] 27)).alloc (by simp <;> omega) (.cells #[.int .i64 T.1, .int .i64 T.2] 29)
   have hm1 : (w.alloc (.cells #[.string h.name, .int .i64 h.height, .slice h.sa h.sets.length h.sc, .slice h.ra h.roofs.length h.rc] 25)).heap.size = w.heap.size + 1 := by simp
   have hm2 : ((w.alloc (.cells #[.string h.name, .int .i64 h.height, .slice h.sa h.sets.length h.sc, .slice h.ra h.roofs.length h.rc] 25)).alloc (.cells #[.string m.name, .int .i64 m.to, .int .i64 m.spd, .int .i64 m.rise, .int .i64 m.fall] 27)).heap.size = w.heap.size + 1 + 1 := by simp
   rw [hm1] at mat1
   rw [hm2] at tat1
   generalize (((w.alloc (.cells #[.string h.name, .int .i64 h.height, .slice h.sa h.sets.length h.sc, .slice h.ra h.roofs.length h.rc] 25)).alloc (.cells #[.string m.name, .int .i64 m.to, .int .i64 m.spd, .int .i64 m.rise, .int .i64 m.fall] 27)).alloc (.cells #[.int .i64 T.1, .int .i64 T.2] 29)) = W0 at *
   have HAT := Lib.hid hat1
   have MAT := Lib.hid mat1
   have TAT := Lib.hid tat1
   clear hat1 mat1 tat1 hm1 hm2
   obtain ⟨k0, k1, k2, k3⟩ := HAT.out
   obtain ⟨m0, m1, m2, m3, m4⟩ := MAT.out
   obtain ⟨t0, t1, _⟩ := TAT.out
   go_wp2_with (first
    | (go_at_call 48; (with_reducible refine (HHV.out _ hW0).mono ?_); rintro e w1 ⟨rfl, hb1⟩; rw [H1.out]; clear k0 k1 k2 k3 m0 m1 m2 m3 m4 t0 t1; obtain ⟨k0, k1, k2, k3⟩ := HAT.out.carry hb1; obtain ⟨m0, m1, m2, m3, m4⟩ := MAT.out.carry hb1; obtain ⟨t0, t1, _⟩ := TAT.out.carry hb1)
    | (go_at_call 49; (with_reducible refine (valid_anyM m _).mono ?_); rintro e w2 ⟨rfl, hb2⟩; rw [H2.out]; have hb12 := hb1.trans (hb2.mono hb1.size); clear k0 k1 k2 k3 m0 m1 m2 m3 m4 t0 t1; obtain ⟨k0, k1, k2, k3⟩ := HAT.out.carry hb12; obtain ⟨m0, m1, m2, m3, m4⟩ := MAT.out.carry hb12; obtain ⟨t0, t1, _⟩ := TAT.out.carry hb12)
    | (go_at_call 25; (with_reducible refine (valid_any T.1 T.2 _).mono ?_); rintro e w3 ⟨rfl, hb3⟩; rw [H3.out]; have hb13 := hb12.trans (hb3.mono hb12.size); clear k0 k1 k2 k3 m0 m1 m2 m3 m4 t0 t1; obtain ⟨k0, k1, k2, k3⟩ := HAT.out.carry hb13; obtain ⟨m0, m1, m2, m3, m4⟩ := MAT.out.carry hb13; obtain ⟨t0, t1, _⟩ := TAT.out.carry hb13)
    | (go_at_call 15; (with_reducible refine (HPA.out _ (hW0.trans (hb13.mono hW0.size))).mono ?_); rintro e w4 ⟨hv, hb4⟩; obtain ⟨v, rfl, hpv⟩ := hv.out; rw [HGE.out]; have hb14 := hb13.trans (hb4.mono hb13.size); clear k0 k1 k2 k3 m0 m1 m2 m3 m4 t0 t1; obtain ⟨k0, k1, k2, k3⟩ := HAT.out.carry hb14; obtain ⟨m0, m1, m2, m3, m4⟩ := MAT.out.carry hb14; obtain ⟨t0, t1, _⟩ := TAT.out.carry hb14))
   go_ret2
   exact ⟨Lib.hid ⟨v, by rw [HO.out]; rfl, fun _ => hpv.1 HGE.out, fun q => absurd HO.out q⟩, hW0.trans (hb14.mono hW0.size)⟩
 ·have z1 : (e != 0) = true := by simpa using z
  have HN : Hid (¬ mgE h f m = 0) := Lib.hid (by rw [he]; exact z)
  have HO : Hid (mtE h f m T = e) := Lib.hid (by rw [HOO.out, if_neg HN.out, he])
  have HZ := Lib.hid z
  clear z he
  go_enter Try.func23, Try.ntmps23
  go_upto_region 1 with (fail)
  have hat1 := ((HouseAt.new w h 25).carry (below_new (w.alloc (.cells #[.string h.name, .int .i64 h.height, .slice h.sa h.sets.length h.sc, .slice h.ra h.roofs.length h.rc] 25)) (.cells #[.string m.name, .int .i64 m.to, .int .i64 m.spd, .int .i64 m.rise, .int .i64 m.fall] 27))).carry (below_new ((w.alloc (.cells #[.string h.name, .int .i64 h.height, .slice h.sa h.sets.length h.sc, .slice h.ra h.roofs.length h.rc] 25)).alloc (.cells #[.string m.name, .int .i64 m.to, .int .i64 m.spd, .int .i64 m.rise, .int .i64 m.fall] 27)) (.cells #[.int .i64 T.1, .int .i64 T.2] 29))
  have mat1 := (MvAt.new (w.alloc (.cells #[.string h.name, .int .i64 h.height, .slice h.sa h.sets.length h.sc, .slice h.ra h.roofs.length h.rc] 25)) m 27).carry (below_new ((w.alloc (.cells #[.string h.name, .int .i64 h.height, .slice h.sa h.sets.length h.sc, .slice h.ra h.roofs.length h.rc] 25)).alloc (.cells #[.string m.name, .int .i64 m.to, .int .i64 m.spd, .int .i64 m.rise, .int .i64 m.fall] 27)) (.cells #[.int .i64 T.1, .int .i64 T.2] 29))
  have tat1 := FI.put ((w.alloc (.cells #[.string h.name, .int .i64 h.height, .slice h.sa h.sets.length h.sc, .slice h.ra h.roofs.length h.rc] 25)).alloc (.cells #[.string m.name, .int .i64 m.to, .int .i64 m.spd, .int .i64 m.rise, .int .i64 m.fall] 27)) T.1 T.2 29
  have hW0 := ((below_new w (.cells #[.string h.name, .int .i64 h.height, .slice h.sa h.sets.length h.sc, .slice h.ra h.roofs.length h.rc] 25)).alloc (by simp) (.cells #[.string m.name, .int .i64 m.to, .int .i64 m.spd, .int .i64 m.rise, .int .i64 m.fall] 27)).alloc (by simp <;> omega) (.cells #[.int .i64 T.1, .int .i64 T.2] 29)
  have hm1 : (w.alloc (.cells #[.string h.name, .int .i64 h.height, .slice h.sa h.sets.length h.sc, .slice h.ra h.roofs.length h.rc] 25)).heap.size = w.heap.size + 1 := by simp
  have hm2 : ((w.alloc (.cells #[.string h.name, .int .i64 h.height, .slice h.sa h.sets.length h.sc, .slice h.ra h.roofs.length h.rc] 25)).alloc (.cells #[.string m.name, .int .i64 m.to, .int .i64 m.spd, .int .i64 m.rise, .int .i64 m.fall] 27)).heap.size = w.heap.size + 1 + 1 := by simp
  rw [hm1] at mat1
  rw [hm2] at tat1
  generalize (((w.alloc (.cells #[.string h.name, .int .i64 h.height, .slice h.sa h.sets.length h.sc, .slice h.ra h.roofs.length h.rc] 25)).alloc (.cells #[.string m.name, .int .i64 m.to, .int .i64 m.spd, .int .i64 m.rise, .int .i64 m.fall] 27)).alloc (.cells #[.int .i64 T.1, .int .i64 T.2] 29)) = W0 at *
  have HAT := Lib.hid hat1
  have MAT := Lib.hid mat1
  have TAT := Lib.hid tat1
  clear hat1 mat1 tat1 hm1 hm2
  obtain ⟨k0, k1, k2, k3⟩ := HAT.out
  obtain ⟨m0, m1, m2, m3, m4⟩ := MAT.out
  obtain ⟨t0, t1, _⟩ := TAT.out
  go_wp2_with (first
    | (go_at_call 48; (with_reducible refine (HHV.out _ hW0).mono ?_); rintro e w1 ⟨rfl, hb1⟩; rw [H1.out]; clear k0 k1 k2 k3 m0 m1 m2 m3 m4 t0 t1; obtain ⟨k0, k1, k2, k3⟩ := HAT.out.carry hb1; obtain ⟨m0, m1, m2, m3, m4⟩ := MAT.out.carry hb1; obtain ⟨t0, t1, _⟩ := TAT.out.carry hb1)
    | (go_at_call 49; (with_reducible refine (valid_anyM m _).mono ?_); rintro e w2 ⟨rfl, hb2⟩; rw [H2.out]; have hb12 := hb1.trans (hb2.mono hb1.size); clear k0 k1 k2 k3 m0 m1 m2 m3 m4 t0 t1; obtain ⟨k0, k1, k2, k3⟩ := HAT.out.carry hb12; obtain ⟨m0, m1, m2, m3, m4⟩ := MAT.out.carry hb12; obtain ⟨t0, t1, _⟩ := TAT.out.carry hb12)
    | (go_at_call 25; (with_reducible refine (valid_any T.1 T.2 _).mono ?_); rintro e w3 ⟨rfl, hb3⟩; rw [H3.out]; have hb13 := hb12.trans (hb3.mono hb12.size); clear k0 k1 k2 k3 m0 m1 m2 m3 m4 t0 t1; obtain ⟨k0, k1, k2, k3⟩ := HAT.out.carry hb13; obtain ⟨m0, m1, m2, m3, m4⟩ := MAT.out.carry hb13; obtain ⟨t0, t1, _⟩ := TAT.out.carry hb13)
    | (go_at_call 15; (with_reducible refine (HPA.out _ (hW0.trans (hb13.mono hW0.size))).mono ?_); rintro e w4 ⟨hv, hb4⟩; obtain ⟨v, rfl, hpv⟩ := hv.out; rw [HGE.out]; have hb14 := hb13.trans (hb4.mono hb13.size); clear k0 k1 k2 k3 m0 m1 m2 m3 m4 t0 t1; obtain ⟨k0, k1, k2, k3⟩ := HAT.out.carry hb14; obtain ⟨m0, m1, m2, m3, m4⟩ := MAT.out.carry hb14; obtain ⟨t0, t1, _⟩ := TAT.out.carry hb14))
  go_ret2
  exact ⟨Lib.hid ⟨.slice none 0 0, by rw [HO.out]; rfl, fun q => absurd (HO.out.symm.trans q) HZ.out, fun _ => rfl⟩, hW0.trans (hb14.mono hW0.size)⟩
end Go.Proofs.Ytbgkgahmicepdaa
namespace Go.Proofs.Ytbgkgahmicepdaa
open Go.RowKit Go.Shelf
attribute [local go_sem] Oper.semAt_some
theorem mp_ok {h : HouseR} {f : Int} {m : Mv} {t : Int} (e : mgE h f m = 0) (ht : IsTop (mgD f m) m.spd m.rise m.fall t) : CurveOK (mpL f m t) := by
 obtain ⟨_, _, f0, f1, _, _, gd, _⟩ := mg_ok e
 exact path_ok ⟨by omega, by omega⟩ (move_c gd ht).ok (curve_small gd ht)
open Classical in
noncomputable def matP (h : HouseR) (f : Int) (m : Mv) (T : Int × Int) (t : Int) : Int × Int × Int := if mtE h f m T = 0 then atP (mpL f m t) T else (0, 0, mtE h f m T)
set_option maxRecDepth 100000 in
set_option maxHeartbeats 32000000 in
theorem mat_any (h : HouseR) (f : Int) (m : Mv) (T : Int × Int) (t : Int) (ht : mgE h f m = 0 → IsTop (mgD f m) m.spd m.rise m.fall t) (w : World) (hh : HouseIn w h) :
  Calls Try.prog 10 #[.agg #[.string h.name, .int .i64 h.height, .slice h.sa h.sets.length h.sc, .slice h.ra h.roofs.length h.rc], .int .i64 f, .agg #[.string m.name, .int .i64 m.to, .int .i64 m.spd, .int .i64 m.rise, .int .i64 m.fall], .agg #[.int .i64 T.1, .int .i64 T.2]] w fun e w' => e = .returned (.tuple #[.agg #[.int .i64 (matP h f m T t).1, .int .i64 (matP h f m T t).2.1], .int .i64 (matP h f m T t).2.2]) ∧ Below w.heap.size w w' := by
 have HTI : Hid (∀ w' : World, Below w.heap.size w w' → Calls Try.prog 23 #[.agg #[.string h.name, .int .i64 h.height, .slice h.sa h.sets.length h.sc, .slice h.ra h.roofs.length h.rc], .int .i64 f, .agg #[.string m.name, .int .i64 m.to, .int .i64 m.spd, .int .i64 m.rise, .int .i64 m.fall], .agg #[.int .i64 T.1, .int .i64 T.2]] w' fun e w2 => Hid (∃ v, e = .returned (.tuple #[v, .int .i64 (mtE h f m T)]) ∧ TimedV w2 h f m t T v) ∧ Below w'.heap.size w' w2) := Lib.hid fun w' hb => mtimed_any h f m T t ht w' (hh.grow hb)
 have HHT := Lib.hid ht
 clear hh ht
 obtain ⟨e, he⟩ : ∃ e, mtE h f m T = e := ⟨_, rfl⟩
 have HE := Lib.hid he
 by_cases z : e = 0
 ·subst z
  obtain ⟨g0, vT, _⟩ := mt_ok he
  have hok := mp_ok g0 (HHT.out g0)
  have hpos := hok.pos
  obtain ⟨A, hA⟩ : ∃ A, atP (mpL f m t) T = A := ⟨_, rfl⟩
  have HR : Hid (matP h f m T t = A) := Lib.hid (by unfold matP; rw [if_pos he, hA])
  rw [HR.out]
  have HQ : Hid (∀ (b : Nat) (w : World), Pcs w.heap.size w (some ⟨b, 0, none⟩) (mpL f m t) → Calls Try.prog 24 #[.slice (some ⟨b, 0, none⟩) (mpL f m t).length (mpL f m t).length, .agg #[.int .i64 T.1, .int .i64 T.2]] w fun e w' => e = .returned (.tuple #[.agg #[.int .i64 A.1, .int .i64 A.2.1], .int .i64 A.2.2]) ∧ Below w.heap.size w w') := Lib.hid fun b w hp => by
   have := qat_any (mpL f m t) hok T (some ⟨b, 0, none⟩) (mpL f m t).length w hp
   rwa [hA] at this
  clear he g0 vT hok hA
  go_enter Try.func10, Try.ntmps10
  go_upto_region 1 with (fail)
  have hat1 := (((HouseAt.new w h 25).carry (below_new (w.alloc (.cells #[.string h.name, .int .i64 h.height, .slice h.sa h.sets.length h.sc, .slice h.ra h.roofs.length h.rc] 25)) (.cells #[.string m.name, .int .i64 m.to, .int .i64 m.spd, .int .i64 m.rise, .int .i64 m.fall] 27))).carry (below_new ((w.alloc (.cells #[.string h.name, .int .i64 h.height, .slice h.sa h.sets.length h.sc, .slice h.ra h.roofs.length h.rc] 25)).alloc (.cells #[.string m.name, .int .i64 m.to, .int .i64 m.spd, .int .i64 m.rise, .int .i64 m.fall] 27)) (.cells #[.int .i64 T.1, .int .i64 T.2] 29))).carry (below_new (((w.alloc (.cells #[.string h.name, .int .i64 h.height, .slice h.sa h.sets.length h.sc, .slice h.ra h.roofs.length h.rc] 25)).alloc (.cells #[.string m.name, .int .i64 m.to, .int .i64 m.spd, .int .i64 m.rise, .int .i64 m.fall] 27)).alloc (.cells #[.int .i64 T.1, .int .i64 T.2] 29)) (.cells #[.int .i64 0, .int .i64 0] 29))
  have mat1 := ((MvAt.new (w.alloc (.cells #[.string h.name, .int .i64 h.height, .slice h.sa h.sets.length h.sc, .slice h.ra h.roofs.length h.rc] 25)) m 27).carry (below_new ((w.alloc (.cells #[.string h.name, .int .i64 h.height, .slice h.sa h.sets.length h.sc, .slice h.ra h.roofs.length h.rc] 25)).alloc (.cells #[.string m.name, .int .i64 m.to, .int .i64 m.spd, .int .i64 m.rise, .int .i64 m.fall] 27)) (.cells #[.int .i64 T.1, .int .i64 T.2] 29))).carry (below_new (((w.alloc (.cells #[.string h.name, .int .i64 h.height, .slice h.sa h.sets.length h.sc, .slice h.ra h.roofs.length h.rc] 25)).alloc (.cells #[.string m.name, .int .i64 m.to, .int .i64 m.spd, .int .i64 m.rise, .int .i64 m.fall] 27)).alloc (.cells #[.int .i64 T.1, .int .i64 T.2] 29)) (.cells #[.int .i64 0, .int .i64 0] 29))
  have tat1 := (FI.put ((w.alloc (.cells #[.string h.name, .int .i64 h.height, .slice h.sa h.sets.length h.sc, .slice h.ra h.roofs.length h.rc] 25)).alloc (.cells #[.string m.name, .int .i64 m.to, .int .i64 m.spd, .int .i64 m.rise, .int .i64 m.fall] 27)) T.1 T.2 29).carry (below_new (((w.alloc (.cells #[.string h.name, .int .i64 h.height, .slice h.sa h.sets.length h.sc, .slice h.ra h.roofs.length h.rc] 25)).alloc (.cells #[.string m.name, .int .i64 m.to, .int .i64 m.spd, .int .i64 m.rise, .int .i64 m.fall] 27)).alloc (.cells #[.int .i64 T.1, .int .i64 T.2] 29)) (.cells #[.int .i64 0, .int .i64 0] 29))
  have zat1 := FI.new (((w.alloc (.cells #[.string h.name, .int .i64 h.height, .slice h.sa h.sets.length h.sc, .slice h.ra h.roofs.length h.rc] 25)).alloc (.cells #[.string m.name, .int .i64 m.to, .int .i64 m.spd, .int .i64 m.rise, .int .i64 m.fall] 27)).alloc (.cells #[.int .i64 T.1, .int .i64 T.2] 29)) 29
  have hW0 := (((below_new w (.cells #[.string h.name, .int .i64 h.height, .slice h.sa h.sets.length h.sc, .slice h.ra h.roofs.length h.rc] 25)).alloc (by simp) (.cells #[.string m.name, .int .i64 m.to, .int .i64 m.spd, .int .i64 m.rise, .int .i64 m.fall] 27)).alloc (by simp <;> omega) (.cells #[.int .i64 T.1, .int .i64 T.2] 29)).alloc (by simp <;> omega) (.cells #[.int .i64 0, .int .i64 0] 29)
  have hm1 : (w.alloc (.cells #[.string h.name, .int .i64 h.height, .slice h.sa h.sets.length h.sc, .slice h.ra h.roofs.length h.rc] 25)).heap.size = w.heap.size + 1 := by simp
  have hm2 : ((w.alloc (.cells #[.string h.name, .int .i64 h.height, .slice h.sa h.sets.length h.sc, .slice h.ra h.roofs.length h.rc] 25)).alloc (.cells #[.string m.name, .int .i64 m.to, .int .i64 m.spd, .int .i64 m.rise, .int .i64 m.fall] 27)).heap.size = w.heap.size + 1 + 1 := by simp
  have hm3 : (((w.alloc (.cells #[.string h.name, .int .i64 h.height, .slice h.sa h.sets.length h.sc, .slice h.ra h.roofs.length h.rc] 25)).alloc (.cells #[.string m.name, .int .i64 m.to, .int .i64 m.spd, .int .i64 m.rise, .int .i64 m.fall] 27)).alloc (.cells #[.int .i64 T.1, .int .i64 T.2] 29)).heap.size = w.heap.size + 1 + 1 + 1 := by simp
  rw [hm1] at mat1
  rw [hm2] at tat1
  rw [hm3] at zat1
  generalize ((((w.alloc (.cells #[.string h.name, .int .i64 h.height, .slice h.sa h.sets.length h.sc, .slice h.ra h.roofs.length h.rc] 25)).alloc (.cells #[.string m.name, .int .i64 m.to, .int .i64 m.spd, .int .i64 m.rise, .int .i64 m.fall] 27)).alloc (.cells #[.int .i64 T.1, .int .i64 T.2] 29)).alloc (.cells #[.int .i64 0, .int .i64 0] 29)) = W0 at *
  have HAT := Lib.hid hat1
  have MAT := Lib.hid mat1
  have TAT := Lib.hid tat1
  have ZAT := Lib.hid zat1
  clear hat1 mat1 tat1 zat1 hm1 hm2 hm3
  obtain ⟨k0, k1, k2, k3⟩ := HAT.out
  obtain ⟨m0, m1, m2, m3, m4⟩ := MAT.out
  obtain ⟨t0, t1, _⟩ := TAT.out
  go_wp2_with (first
   | (go_at_call 23; (with_reducible refine (HTI.out _ hW0).mono ?_); rintro e w1 ⟨hv, hb1⟩; obtain ⟨v, rfl, htv⟩ := hv.out; rw [HE.out]; clear k0 k1 k2 k3 m0 m1 m2 m3 m4 t0 t1; obtain ⟨t0, t1, _⟩ := TAT.out.carry hb1; obtain ⟨q0, q1, q2, q3, q4⟩ := ZAT.out.carry hb1; obtain ⟨Bp, rfl, hpc⟩ := htv.1 HE.out; have HP := Lib.hid hpc; clear hpc htv hv)
   | (go_at_call 24; (with_reducible refine (HQ.out _ _ HP.out).mono ?_); rintro e w2 ⟨rfl, hb2⟩; clear q0 q1 q2 q3 q4; obtain ⟨q0, q1, q2, q3, q4⟩ := (ZAT.out.carry hb1).carry hb2))
  have l0 := (two_cells (v0 := .int .i64 A.1) (v1 := .int .i64 A.2.1) q0 q1).1
  have l1 := (two_cells (v0 := .int .i64 A.1) (v1 := .int .i64 A.2.1) q0 q1).2
  refine bodyPost_ret (v := .tuple #[.agg #[.int .i64 A.1, .int .i64 A.2.1], .int .i64 A.2.2]) (by simp [results, Try.results10, go_sem, l0, l1]) rfl ⟨rfl, ?_⟩
  exact below_s _ _ (below_s _ _ (hW0.trans ((hb1.trans (hb2.mono hb1.size)).mono hW0.size)) (show w.heap.size ≤ w.heap.size + 1 + 1 + 1 by omega)) (show w.heap.size ≤ w.heap.size + 1 + 1 + 1 by omega)
 ·have HR : Hid (matP h f m T t = (0, 0, e)) := Lib.hid (by unfold matP; rw [if_neg (by rw [he]; exact z), he])
  rw [HR.out]
  have z1 : (e != 0) = true := by simpa using z
  have HN : Hid (¬ mtE h f m T = 0) := Lib.hid (by rw [he]; exact z)
  clear he z
  go_enter Try.func10, Try.ntmps10
  go_upto_region 1 with (fail)
  have hat1 := (((HouseAt.new w h 25).carry (below_new (w.alloc (.cells #[.string h.name, .int .i64 h.height, .slice h.sa h.sets.length h.sc, .slice h.ra h.roofs.length h.rc] 25)) (.cells #[.string m.name, .int .i64 m.to, .int .i64 m.spd, .int .i64 m.rise, .int .i64 m.fall] 27))).carry (below_new ((w.alloc (.cells #[.string h.name, .int .i64 h.height, .slice h.sa h.sets.length h.sc, .slice h.ra h.roofs.length h.rc] 25)).alloc (.cells #[.string m.name, .int .i64 m.to, .int .i64 m.spd, .int .i64 m.rise, .int .i64 m.fall] 27)) (.cells #[.int .i64 T.1, .int .i64 T.2] 29))).carry (below_new (((w.alloc (.cells #[.string h.name, .int .i64 h.height, .slice h.sa h.sets.length h.sc, .slice h.ra h.roofs.length h.rc] 25)).alloc (.cells #[.string m.name, .int .i64 m.to, .int .i64 m.spd, .int .i64 m.rise, .int .i64 m.fall] 27)).alloc (.cells #[.int .i64 T.1, .int .i64 T.2] 29)) (.cells #[.int .i64 0, .int .i64 0] 29))
  have mat1 := ((MvAt.new (w.alloc (.cells #[.string h.name, .int .i64 h.height, .slice h.sa h.sets.length h.sc, .slice h.ra h.roofs.length h.rc] 25)) m 27).carry (below_new ((w.alloc (.cells #[.string h.name, .int .i64 h.height, .slice h.sa h.sets.length h.sc, .slice h.ra h.roofs.length h.rc] 25)).alloc (.cells #[.string m.name, .int .i64 m.to, .int .i64 m.spd, .int .i64 m.rise, .int .i64 m.fall] 27)) (.cells #[.int .i64 T.1, .int .i64 T.2] 29))).carry (below_new (((w.alloc (.cells #[.string h.name, .int .i64 h.height, .slice h.sa h.sets.length h.sc, .slice h.ra h.roofs.length h.rc] 25)).alloc (.cells #[.string m.name, .int .i64 m.to, .int .i64 m.spd, .int .i64 m.rise, .int .i64 m.fall] 27)).alloc (.cells #[.int .i64 T.1, .int .i64 T.2] 29)) (.cells #[.int .i64 0, .int .i64 0] 29))
  have tat1 := (FI.put ((w.alloc (.cells #[.string h.name, .int .i64 h.height, .slice h.sa h.sets.length h.sc, .slice h.ra h.roofs.length h.rc] 25)).alloc (.cells #[.string m.name, .int .i64 m.to, .int .i64 m.spd, .int .i64 m.rise, .int .i64 m.fall] 27)) T.1 T.2 29).carry (below_new (((w.alloc (.cells #[.string h.name, .int .i64 h.height, .slice h.sa h.sets.length h.sc, .slice h.ra h.roofs.length h.rc] 25)).alloc (.cells #[.string m.name, .int .i64 m.to, .int .i64 m.spd, .int .i64 m.rise, .int .i64 m.fall] 27)).alloc (.cells #[.int .i64 T.1, .int .i64 T.2] 29)) (.cells #[.int .i64 0, .int .i64 0] 29))
  have zat1 := FI.new (((w.alloc (.cells #[.string h.name, .int .i64 h.height, .slice h.sa h.sets.length h.sc, .slice h.ra h.roofs.length h.rc] 25)).alloc (.cells #[.string m.name, .int .i64 m.to, .int .i64 m.spd, .int .i64 m.rise, .int .i64 m.fall] 27)).alloc (.cells #[.int .i64 T.1, .int .i64 T.2] 29)) 29
  have hW0 := (((below_new w (.cells #[.string h.name, .int .i64 h.height, .slice h.sa h.sets.length h.sc, .slice h.ra h.roofs.length h.rc] 25)).alloc (by simp) (.cells #[.string m.name, .int .i64 m.to, .int .i64 m.spd, .int .i64 m.rise, .int .i64 m.fall] 27)).alloc (by simp <;> omega) (.cells #[.int .i64 T.1, .int .i64 T.2] 29)).alloc (by simp <;> omega) (.cells #[.int .i64 0, .int .i64 0] 29)
  have hm1 : (w.alloc (.cells #[.string h.name, .int .i64 h.height, .slice h.sa h.sets.length h.sc, .slice h.ra h.roofs.length h.rc] 25)).heap.size = w.heap.size + 1 := by simp
  have hm2 : ((w.alloc (.cells #[.string h.name, .int .i64 h.height, .slice h.sa h.sets.length h.sc, .slice h.ra h.roofs.length h.rc] 25)).alloc (.cells #[.string m.name, .int .i64 m.to, .int .i64 m.spd, .int .i64 m.rise, .int .i64 m.fall] 27)).heap.size = w.heap.size + 1 + 1 := by simp
  have hm3 : (((w.alloc (.cells #[.string h.name, .int .i64 h.height, .slice h.sa h.sets.length h.sc, .slice h.ra h.roofs.length h.rc] 25)).alloc (.cells #[.string m.name, .int .i64 m.to, .int .i64 m.spd, .int .i64 m.rise, .int .i64 m.fall] 27)).alloc (.cells #[.int .i64 T.1, .int .i64 T.2] 29)).heap.size = w.heap.size + 1 + 1 + 1 := by simp
  rw [hm1] at mat1
  rw [hm2] at tat1
  rw [hm3] at zat1
  generalize ((((w.alloc (.cells #[.string h.name, .int .i64 h.height, .slice h.sa h.sets.length h.sc, .slice h.ra h.roofs.length h.rc] 25)).alloc (.cells #[.string m.name, .int .i64 m.to, .int .i64 m.spd, .int .i64 m.rise, .int .i64 m.fall] 27)).alloc (.cells #[.int .i64 T.1, .int .i64 T.2] 29)).alloc (.cells #[.int .i64 0, .int .i64 0] 29)) = W0 at *
  have HAT := Lib.hid hat1
  have MAT := Lib.hid mat1
  have TAT := Lib.hid tat1
  have ZAT := Lib.hid zat1
  clear hat1 mat1 tat1 zat1 hm1 hm2 hm3
  obtain ⟨k0, k1, k2, k3⟩ := HAT.out
  obtain ⟨m0, m1, m2, m3, m4⟩ := MAT.out
  obtain ⟨t0, t1, _⟩ := TAT.out
  go_wp2_with (go_at_call 23; (with_reducible refine (HTI.out _ hW0).mono ?_); rintro e w1 ⟨hv, hb1⟩; obtain ⟨v, rfl, htv⟩ := hv.out; rw [HE.out]; clear k0 k1 k2 k3 m0 m1 m2 m3 m4 t0 t1; obtain ⟨t0, t1, _⟩ := TAT.out.carry hb1; obtain ⟨q0, q1, q2, q3, q4⟩ := ZAT.out.carry hb1; obtain rfl := htv.2 HN.out; clear htv hv)
  have l0 := (two_cells (v0 := .int .i64 0) (v1 := .int .i64 0) q0 q1).1
  have l1 := (two_cells (v0 := .int .i64 0) (v1 := .int .i64 0) q0 q1).2
  refine bodyPost_ret (v := .tuple #[.agg #[.int .i64 0, .int .i64 0], .int .i64 e]) (by simp [results, Try.results10, go_sem, l0, l1]) rfl ⟨rfl, ?_⟩
  exact below_s _ _ (below_s _ _ (hW0.trans (hb1.mono hW0.size)) (show w.heap.size ≤ w.heap.size + 1 + 1 + 1 by omega)) (show w.heap.size ≤ w.heap.size + 1 + 1 + 1 by omega)
end Go.Proofs.Ytbgkgahmicepdaa
