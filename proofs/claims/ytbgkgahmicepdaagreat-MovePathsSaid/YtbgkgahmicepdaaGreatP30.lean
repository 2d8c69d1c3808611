/-
  THE WALK of the reference's Path (35).
-/
import Derived.ProofKit
import Derived.OpenShut
import Derived.ChangeSame
import Derived.Carry
import Derived.RowKit
import Derived.Deep.Slices
import Derived.Deep.Fields
import Derived.Lib.SmallJoins
import Derived.Test.YtbgkgahmicepdaaGreatP29
import Derived.Test.YtbgkgahmicepdaaGreatP25
namespace Go.Proofs.YtbgkgahmicepdaaGreat
set_option maxRecDepth 100000
set_option maxHeartbeats 80000000
section
open Go.RowKit Go.Shelf
attribute [local go_sem] Oper.semAt_some
theorem rpath_any (h : HouseR) (f : Int) (m : Mv) (t : Int) (e0 : mgE h f m = 0) (ht : IsTop (mgD f m) m.spd m.rise m.fall t) (w : World) :
  Calls Tryz.prog 19 #[.int .i64 f, .agg #[.string m.name, .int .i64 m.to, .int .i64 m.spd, .int .i64 m.rise, .int .i64 m.fall]] w fun e w' => Hid (∃ v, e = .returned v ∧ w'.ownsRow w.heap.size 81 8 v (mpL f m t).length (pcflat (mpL f m t))) ∧ Below w.heap.size w w' := by
 obtain ⟨_, _, f0, f1, t0, t1, gd, _, _, _⟩ := mg_ok e0;have HC := lh (rcurve_any (mgD f m) m t gd ht);have HDS : Hid (∀ w : World, Calls Tryz.prog 21 #[.int .i64 f, .int .i64 m.to] w fun e w' => e = .returned (.int .i64 (mgD f m)) ∧ w = w') := lh fun w => rdist_any f m.to ⟨f0, f1⟩ ⟨t0, t1⟩ w;have hsm := curve_small gd ht;have hok := (move_c gd ht).ok;have hlen := (move_c gd ht).len;have HMP : Hid (mpL f m t = pathL (upB f m) f (curveL (mgD f m) m.rise m.fall t)) := lh rfl;obtain ⟨L, hL⟩ := nm (curveL (mgD f m) m.rise m.fall t);obtain ⟨d, hd⟩ := nm (mgD f m);rw [hL] at hsm hok hlen HMP HC;rw [hd] at HC HDS;obtain ⟨Q, hQ⟩ := nm (mpL f m t);rw [hQ] at HMP ⊢;have hql : Q.length = L.length := by rw [HMP.out, path_len]
 have hf : -1048576 ≤ f ∧ f ≤ 1048576 := by omega
 have vf : validF f 1 = true := (validF_iff _ _).2 ⟨by decide, by decide, by omega, by omega, by simp⟩
 have HAT : Hid (∀ k, k < L.length → validF (pcg L k).a0 (pcg L k).a1 = true ∧ (-1152921504606846976 ≤ (pcg L k).b0 ∧ (pcg L k).b0 ≤ 1152921504606846976) ∧ (-1152921504606846976 ≤ (pcg L k).c0 ∧ (pcg L k).c0 ≤ 1152921504606846976) ∧ pcg Q k = wayP (upB f m) f (pcg L k)) := lh fun k hk =>
  ⟨(hok.val k hk).a, ⟨by have := (hsm k hk).b; omega, by have := (hsm k hk).b; omega⟩, ⟨by have := (hsm k hk).c; omega, by have := (hsm k hk).c; omega⟩, by rw [HMP.out, path_at hk]⟩
 have HQL := lh hql;have HLEN : Hid (L.length ≤ 4) := lh (by omega);have VF := lh vf;clear hL hd hQ hsm hok hlen gd f0 f1 t0 t1 e0 ht HMP vf hql;have hb0 := below_new w (.cells #[.string m.name, .int .i64 m.to, .int .i64 m.spd, .int .i64 m.rise, .int .i64 m.fall] 27);have hm0 := MvAt.new w m 27
 go_enter Tryz.func19, Tryz.ntmps19
 go_upto_region 1 with (fail)
 generalize w.alloc (.cells #[.string m.name, .int .i64 m.to, .int .i64 m.spd, .int .i64 m.rise, .int .i64 m.fall] 27) = W0 at *;have HM : Hid (∀ w', Below W0.heap.size W0 w' → MvAt w' w.heap.size m) := lh fun w' z => hm0.carry z;have HB0 := lh hb0;obtain ⟨n₀, hn0⟩ := nm (w.heap.size);rw [hn0] at HM ⊢;have HN0 := lh hn0;clear hb0 hm0 hn0
 go_cut [5] (fun v wx => ∃ (W1 : World) (pa : Option Addr) (pc : Nat), W1 = wx ∧ v = .slice pa L.length pc ∧ Below W0.heap.size W0 wx ∧ Hid (Pcs wx.heap.size wx pa L))
 case first =>
  have k0 : ∀ w', Below W0.heap.size W0 w' → w'.cell? ⟨n₀, 0, none⟩ = some (.string m.name) := fun w' z => (HM.out w' z).1;have k1 : ∀ w', Below W0.heap.size W0 w' → w'.cell? ⟨n₀, 1, none⟩ = some (.int .i64 m.to) := fun w' z => (HM.out w' z).2.1;have k2 : ∀ w', Below W0.heap.size W0 w' → w'.cell? ⟨n₀, 2, none⟩ = some (.int .i64 m.spd) := fun w' z => (HM.out w' z).2.2.1;have k3 : ∀ w', Below W0.heap.size W0 w' → w'.cell? ⟨n₀, 3, none⟩ = some (.int .i64 m.rise) := fun w' z => (HM.out w' z).2.2.2.1;have k4 : ∀ w', Below W0.heap.size W0 w' → w'.cell? ⟨n₀, 4, none⟩ = some (.int .i64 m.fall) := fun w' z => (HM.out w' z).2.2.2.2;refine wp_region_held_drew (S := fun w' => Below W0.heap.size W0 w') (by kernel_rfl) (br).drew (fun hHeld => ?_);refine tk 0 ?_; refine tk 1 ?_; refine tk 2 ?_; refine tq 3 (fun w' _ => HDS.out w') ?_; refine tk 4 ?_;refine clE 5 ((HC.out _).mono fun e w' z => (let ⟨v, he, ho⟩ := z.1.out; ⟨v, he, ho, z.2⟩ : ∃ v, e = .returned v ∧ w'.ownsRow _ 81 8 v L.length (pcflat L) ∧ Below _ _ w')) (fun V w' z => hHeld.trans (z.2.mono hHeld.size)) (fun V y1 z hH1 => ?_);obtain ⟨pa, pcap, rfl, _, _, _, hP⟩ := pc_of_row z.1;refine tk 6 ?_; refine dn ?_
  go_wp2_with fail
  go_meet
  exact ⟨_, pa, pcap, rfl, rfl, hH1, lh hP⟩
 case rest =>
 obtain ⟨W1, pa, pcap, rfl, rfl, hB1, HP⟩ := hcut;have HB1 := lh hB1;clear HC HDS
 go_upto_region 4 with (fail)
 go_loopw [6, 7] (fun v i wr => ∃ k : Nat, k ≤ L.length ∧ i = .int .i64 k ∧ Below W1.heap.size W1 wr ∧ Hid (wr.ownsRow W1.heap.size 81 8 v k (pcflat (Q.take k)))) (fun _ i _ => L.length - (intOf i).toNat)
 case atStart => exact ⟨0, Nat.zero_le _, rfl, br, lh (World.ownsRow_nil _ _ _ _)⟩
 case round =>
  clear hB1;obtain ⟨k, hk, rfl, hB, HR⟩ := hrel
  by_cases hlt : k < L.length
  ·obtain ⟨b, off, rfl, hb, hc⟩ := (HP.out.grow hB) (by omega)
   obtain ⟨c0, c1, c2, c3, c4, c5, c6, c7⟩ := hc k hlt;obtain ⟨va, vb, vc, hq⟩ := HAT.out k hlt;have i0 : 0 ≤ (k : Int) := by omega
   have i1 : (k : Int) < (L.length : Int) := by omega
   have s1 : IntKind.i64.wrap ((k : Int) + 1) = (k : Int) + 1 := IntWalk.i64_in _ (by have := HLEN.out; omega);obtain ⟨m0, m1, m2, m3, m4⟩ := HM.out _ (HB1.out.trans (hB.mono HB1.out.size));have zn : n₀ < wr.heap.size := wl m0;obtain ⟨p, hp⟩ := nm (pcg L k);rw [hp] at c0 c1 c2 c3 c4 c5 c6 c7 va vb vc hq;have VA := lh va;have VB := lh vb;have VC := lh vc;have HQK := lh hq;have hbn := below_new wr (.cells #[.int .i64 p.f0, .int .i64 p.f1, .int .i64 p.a0, .int .i64 p.a1, .int .i64 p.b0, .int .i64 p.b1, .int .i64 p.c0, .int .i64 p.c1] 81);have hpb := PB.new wr p 81;clear hc va vb vc hq hp
   cases hu : decide (f ≤ m.to)
   ·have HU : Hid (upB f m = false) := lh (by unfold upB; have := of_decide_eq_false hu; simp; omega)
    obtain ⟨X, hX⟩ := nm (addP f 1 (-p.a0) p.a1);have HQ2 : Hid (pcg Q k = ⟨p.f0, p.f1, X.1, X.2.1, -p.b0, p.b1, -p.c0, p.c1⟩) := lh (by rw [HQK.out, HU.out, ← hX]; rfl);have HADD := lh fun w' => rsub_walk f 1 p.a0 p.a1 VF.out VA.out w';rw [hX] at HADD;clear hX HQK HU
    go_upto_region 9 with (fail)
    obtain ⟨W6, hW6⟩ := nm (wr.alloc (.cells #[.int .i64 p.f0, .int .i64 p.f1, .int .i64 p.a0, .int .i64 p.a1, .int .i64 p.b0, .int .i64 p.b1, .int .i64 p.c0, .int .i64 p.c1] 81));obtain ⟨B, hBe⟩ := nm (wr.heap.size);rw [hW6] at hbn hpb;simp only [hW6];rw [hBe] at hpb ⊢;have hH : HQ wr.heap.size wr B W6 := ⟨hbn, ⟨p, hpb⟩, by omega⟩;have HMM : Hid (∀ w', HQ wr.heap.size wr B w' → MvAt w' n₀ m) := lh fun w' z => HM.out _ (HB1.out.trans ((hB.trans (z.old.mono hB.size)).mono HB1.out.size));have HHB := lh hB;clear hW6 hbn c0 c1 c2 c3 c4 c5 c6 c7 m0 m1 m2 m3 m4 hB zn;have HBE := lh hBe;clear hBe
    go_cut [8] (fun v wx => ∃ W7 : World, W7 = wx ∧ v = .pointer (some ⟨B, 0, none⟩) ∧ HQ wr.heap.size wr B wx ∧ Hid (PB wx B ⟨p.f0, p.f1, X.1, X.2.1, p.b0, p.b1, p.c0, p.c1⟩))
    case first =>
     have hD := hH.next (br).drew;have hpd := hpb.carry (br).drew;clear hpb hH;refine wp_region_held_drew (S := HQ wr.heap.size wr B) (by kernel_rfl) hD (fun hHeld => ?_);refine tk 0 ?_; refine tk 2 ?_;obtain ⟨q0, q1, q2, q3, q4, q5, q6, q7, qf⟩ := id hpd;refine ry [1, 3] (rc 1 (of_any f _) (fun _ hb => hHeld.next hb) (fun y1 hb hH1 => ?_) (vl 3 hHeld (fun hH1 => ?_) nl))
     ·have hp1 := hpd.carry hb
      clear q0 q1 q2 q3 q4 q5 q6 q7 qf;obtain ⟨q0, q1, q2, q3, q4, q5, q6, q7, qf⟩ := id hp1;refine ry [3] (vl 3 hH1 (fun hH2 => ?_) nl);refine cl 4 (HADD.out _) (fun _ hb => hH2.next hb) (fun y2 hb2 hH3 => ?_);have hp2 := hp1.carry hb2
      (try clear q0 q1 q2 q3 q4 q5 q6 q7 qf)
      obtain ⟨q0, q1, q2, q3, q4, q5, q6, q7, qf⟩ := id hp2;refine tk 5 ?_; refine tk 6 ?_; refine tk 7 ?_; refine tk 8 ?_;refine ry [9] (vl 9 (hH3.putAt (hp2.putA X.1 X.2.1)) (fun hH4 => ?_) nl);refine dn ?_
      go_wp2_with fail
      go_meet
      exact ⟨_, rfl, rfl, hH4, lh (hp2.putA X.1 X.2.1)⟩
     ·clear q0 q1 q2 q3 q4 q5 q6 q7 qf
      refine ry [1] (rc 1 (of_any f _) (fun _ hb => hH1.next hb) (fun y1 hb hH2 => ?_) nl);have hp1 := hpd.carry hb;refine cl 4 (HADD.out _) (fun _ hb => hH2.next hb) (fun y2 hb2 hH3 => ?_);have hp2 := hp1.carry hb2
      (try clear q0 q1 q2 q3 q4 q5 q6 q7 qf)
      obtain ⟨q0, q1, q2, q3, q4, q5, q6, q7, qf⟩ := id hp2;refine tk 5 ?_; refine tk 6 ?_; refine tk 7 ?_; refine tk 8 ?_;refine ry [9] (vl 9 (hH3.putAt (hp2.putA X.1 X.2.1)) (fun hH4 => ?_) nl);refine dn ?_
      go_wp2_with fail
      go_meet
      exact ⟨_, rfl, rfl, hH4, lh (hp2.putA X.1 X.2.1)⟩
    case rest =>
    obtain ⟨W7, rfl, rfl, hH, HPB⟩ := hcut;clear hpb;obtain ⟨q0, q1, q2, q3, q4, q5, q6, q7, qf⟩ := HPB.out
    go_upto_region 11 with (go_at_call 54; (with_reducible refine (rneg_any p.b0 p.b1 VB.out.1 VB.out.2 _).mono ?_); rintro e w7 ⟨rfl, hb7⟩; replace hH := hH.next hb7; have hp7 := HPB.out.carry hb7; clear q0 q1 q2 q3 q4 q5 q6 q7 qf; obtain ⟨q0, q1, q2, q3, q4, q5, q6, q7, qf⟩ := hp7)
    have hp8 := (HPB.out.carry hb7).putB (-p.b0) p.b1;replace hH := hH.putAt hp8;clear q0 q1 q2 q3 q4 q5 q6 q7 qf HPB hb7;obtain ⟨W8, hW8⟩ := nm ((w7.setCell ⟨B, 4, none⟩ (.int .i64 (-p.b0))).setCell ⟨B, 5, none⟩ (.int .i64 p.b1));rw [hW8] at hp8 hH;simp only [hW8];clear hW8;have HPB := lh hp8;obtain ⟨q0, q1, q2, q3, q4, q5, q6, q7, qf⟩ := hp8
    go_upto_region 12 with (go_at_call 54; (with_reducible refine (rneg_any p.c0 p.c1 VC.out.1 VC.out.2 _).mono ?_); rintro e w9 ⟨rfl, hb9⟩; replace hH := hH.next hb9; have hp9 := HPB.out.carry hb9; clear q0 q1 q2 q3 q4 q5 q6 q7 qf; obtain ⟨q0, q1, q2, q3, q4, q5, q6, q7, qf⟩ := hp9)
    have hp8 := (HPB.out.carry hb9).putC (-p.c0) p.c1;replace hH := hH.putAt hp8;clear q0 q1 q2 q3 q4 q5 q6 q7 qf HPB hb9;obtain ⟨W9, hW8⟩ := nm ((w9.setCell ⟨B, 6, none⟩ (.int .i64 (-p.c0))).setCell ⟨B, 7, none⟩ (.int .i64 p.c1));rw [hW8] at hp8 hH;simp only [hW8];clear hW8;have HPB := lh hp8;have hgb := hH.old;have hql : Q.length = L.length := HQL.out;have HTL : Hid ((Q.take k).length = k) := lh (by rw [List.length_take]; omega);have HTN : Hid (Q.take (k + 1) = Q.take k ++ [⟨p.f0, p.f1, X.1, X.2.1, -p.b0, p.b1, -p.c0, p.c1⟩]) := lh (by rw [← HQ2.out, List.take_add_one, pcg_get (by omega)]; rfl);have HOWN := lh (own_len HTL.out (ownsRow_below HR.out hgb));have HB2 : Hid (Below W1.heap.size W1 W9) := lh (HHB.out.trans (hgb.mono HHB.out.size));obtain ⟨q0, q1, q2, q3, q4, q5, q6, q7, qf⟩ := HPB.out;have hsz := HB2.out.size;clear hgb hql HR HHB hH
    go_wp2_with (at_builtin; refine pc_append rfl _ _ rfl W1.heap.size _ (Q.take k) rfl (HOWN.out.alloc _) _ ⟨p.f0, p.f1, X.1, X.2.1, -p.b0, p.b1, -p.c0, p.c1⟩ rfl (C8.new _ _ _ _ _ _ _ _ _ _) (by rw [HTL.out]; have := HLEN.out; omega) (by simp; omega) ?_; intro v2 w8 hown8 hg8; have hB9 := (below_a (.cells #[.int .i64 p.f0, .int .i64 p.f1, .int .i64 X.1, .int .i64 X.2.1, .int .i64 (-p.b0), .int .i64 p.b1, .int .i64 (-p.c0), .int .i64 p.c1] 81) HB2.out).grown hg8 (by simp; omega) (fun j e => (HOWN.out.lt _ e).1); have HO9 := lh hown8; clear hown8 hg8)
    go_roundw
    case rel => exact ⟨k + 1, by omega, by go_num, hB9, lh (by have := HO9.out; rw [List.length_append, HTL.out] at this; rw [HTN.out]; exact this)⟩
    case measure => simp [intOf]; omega
   ·have HU : Hid (upB f m = true) := lh (by unfold upB; have := of_decide_eq_true hu; simp; omega)
    obtain ⟨X, hX⟩ := nm (addP f 1 (p.a0) p.a1);have HQ2 : Hid (pcg Q k = ⟨p.f0, p.f1, X.1, X.2.1, p.b0, p.b1, p.c0, p.c1⟩) := lh (by rw [HQK.out, HU.out, ← hX]; rfl);have HADD := lh fun w' => radd_walk f 1 p.a0 p.a1 VF.out VA.out w';rw [hX] at HADD;clear hX HQK HU
    go_upto_region 8 with (fail)
    obtain ⟨W6, hW6⟩ := nm (wr.alloc (.cells #[.int .i64 p.f0, .int .i64 p.f1, .int .i64 p.a0, .int .i64 p.a1, .int .i64 p.b0, .int .i64 p.b1, .int .i64 p.c0, .int .i64 p.c1] 81));obtain ⟨B, hBe⟩ := nm (wr.heap.size);rw [hW6] at hbn hpb;simp only [hW6];rw [hBe] at hpb ⊢;have hH : HQ wr.heap.size wr B W6 := ⟨hbn, ⟨p, hpb⟩, by omega⟩;have HMM : Hid (∀ w', HQ wr.heap.size wr B w' → MvAt w' n₀ m) := lh fun w' z => HM.out _ (HB1.out.trans ((hB.trans (z.old.mono hB.size)).mono HB1.out.size));have HHB := lh hB;clear hW6 hbn c0 c1 c2 c3 c4 c5 c6 c7 m0 m1 m2 m3 m4 hB zn;have HBE := lh hBe;clear hBe
    go_cut [8] (fun v wx => ∃ W7 : World, W7 = wx ∧ v = .pointer (some ⟨B, 0, none⟩) ∧ HQ wr.heap.size wr B wx ∧ Hid (PB wx B ⟨p.f0, p.f1, X.1, X.2.1, p.b0, p.b1, p.c0, p.c1⟩))
    case first =>
     have hD := hH.next (br).drew;have hpd := hpb.carry (br).drew;clear hpb hH;refine wp_region_held_drew (S := HQ wr.heap.size wr B) (by kernel_rfl) hD (fun hHeld => ?_);refine tk 0 ?_; refine tk 2 ?_;obtain ⟨q0, q1, q2, q3, q4, q5, q6, q7, qf⟩ := id hpd;refine ry [1, 3] (rc 1 (of_any f _) (fun _ hb => hHeld.next hb) (fun y1 hb hH1 => ?_) (vl 3 hHeld (fun hH1 => ?_) nl))
     ·have hp1 := hpd.carry hb
      clear q0 q1 q2 q3 q4 q5 q6 q7 qf;obtain ⟨q0, q1, q2, q3, q4, q5, q6, q7, qf⟩ := id hp1;refine ry [3] (vl 3 hH1 (fun hH2 => ?_) nl);refine cl 4 (HADD.out _) (fun _ hb => hH2.next hb) (fun y2 hb2 hH3 => ?_);have hp2 := hp1.carry hb2
      (try clear q0 q1 q2 q3 q4 q5 q6 q7 qf)
      obtain ⟨q0, q1, q2, q3, q4, q5, q6, q7, qf⟩ := id hp2;refine tk 5 ?_; refine tk 6 ?_; refine tk 7 ?_; refine tk 8 ?_;refine ry [9] (vl 9 (hH3.putAt (hp2.putA X.1 X.2.1)) (fun hH4 => ?_) nl);refine dn ?_
      go_wp2_with fail
      go_meet
      exact ⟨_, rfl, rfl, hH4, lh (hp2.putA X.1 X.2.1)⟩
     ·clear q0 q1 q2 q3 q4 q5 q6 q7 qf
      refine ry [1] (rc 1 (of_any f _) (fun _ hb => hH1.next hb) (fun y1 hb hH2 => ?_) nl);have hp1 := hpd.carry hb;refine cl 4 (HADD.out _) (fun _ hb => hH2.next hb) (fun y2 hb2 hH3 => ?_);have hp2 := hp1.carry hb2
      (try clear q0 q1 q2 q3 q4 q5 q6 q7 qf)
      obtain ⟨q0, q1, q2, q3, q4, q5, q6, q7, qf⟩ := id hp2;refine tk 5 ?_; refine tk 6 ?_; refine tk 7 ?_; refine tk 8 ?_;refine ry [9] (vl 9 (hH3.putAt (hp2.putA X.1 X.2.1)) (fun hH4 => ?_) nl);refine dn ?_
      go_wp2_with fail
      go_meet
      exact ⟨_, rfl, rfl, hH4, lh (hp2.putA X.1 X.2.1)⟩
    case rest =>
    obtain ⟨W7, rfl, rfl, hH, HPB⟩ := hcut;clear hpb;have hgb := hH.old;have hql : Q.length = L.length := HQL.out;have HTL : Hid ((Q.take k).length = k) := lh (by rw [List.length_take]; omega);have HTN : Hid (Q.take (k + 1) = Q.take k ++ [⟨p.f0, p.f1, X.1, X.2.1, p.b0, p.b1, p.c0, p.c1⟩]) := lh (by rw [← HQ2.out, List.take_add_one, pcg_get (by omega)]; rfl);have HOWN := lh (own_len HTL.out (ownsRow_below HR.out hgb));have HB2 : Hid (Below W1.heap.size W1 W7) := lh (HHB.out.trans (hgb.mono HHB.out.size));obtain ⟨q0, q1, q2, q3, q4, q5, q6, q7, qf⟩ := HPB.out;have hsz := HB2.out.size;clear hgb hql HR HHB hH
    go_wp2_with (at_builtin; refine pc_append rfl _ _ rfl W1.heap.size _ (Q.take k) rfl (HOWN.out.alloc _) _ ⟨p.f0, p.f1, X.1, X.2.1, p.b0, p.b1, p.c0, p.c1⟩ rfl (C8.new _ _ _ _ _ _ _ _ _ _) (by rw [HTL.out]; have := HLEN.out; omega) (by simp; omega) ?_; intro v2 w8 hown8 hg8; have hB9 := (below_a (.cells #[.int .i64 p.f0, .int .i64 p.f1, .int .i64 X.1, .int .i64 X.2.1, .int .i64 p.b0, .int .i64 p.b1, .int .i64 p.c0, .int .i64 p.c1] 81) HB2.out).grown hg8 (by simp; omega) (fun j e => (HOWN.out.lt _ e).1); have HO9 := lh hown8; clear hown8 hg8)
    go_roundw
    case rel => exact ⟨k + 1, by omega, by go_num, hB9, lh (by have := HO9.out; rw [List.length_append, HTL.out] at this; rw [HTN.out]; exact this)⟩
    case measure => simp [intOf]; omega
  ·obtain rfl : k = L.length := by omega
   go_wp2_with fail
   go_ret;have hql : Q.length = L.length := HQL.out;have ho := HR.out;rw [List.take_of_length_le (by omega)] at ho;refine ⟨lh ⟨_, rfl, by rw [hql]; exact ownsRow_base ho (by have := HB1.out.size; have := HB0.out.size; omega)⟩, HB0.out.trans ((HB1.out.trans (hB.mono HB1.out.size)).mono HB0.out.size)⟩
theorem lawpaths_law (h : HouseR) (f : Int) (m : Mv) (w : World) (hh : HouseIn0 w h) :
  Calls Tryz.prog 4 #[.agg #[.string h.name, .int .i64 h.height, .slice h.sa h.sets.length h.sc, .slice h.ra h.roofs.length h.rc], .int .i64 f, .agg #[.string m.name, .int .i64 m.to, .int .i64 m.spd, .int .i64 m.rise, .int .i64 m.fall]] w fun e w' => e = .returned (.bool true) ∧ Below w.heap.size w w' := by
 obtain ⟨b, hb⟩ := nm (fewB h m)
 have HFE : Hid (∀ w : World, HouseIn0 w h → Calls Tryz.prog 6 #[.agg #[.string h.name, .int .i64 h.height, .slice h.sa h.sets.length h.sc, .slice h.ra h.roofs.length h.rc], .agg #[.string m.name, .int .i64 m.to, .int .i64 m.spd, .int .i64 m.rise, .int .i64 m.fall]] w fun e w' => e = .returned (.bool b) ∧ Below w.heap.size w w') := lh fun w hh => by
  have := few_any h m w hh
  rwa [hb] at this
 cases b
 ·clear hb
  go_enter Tryz.func4, Tryz.ntmps4
  go_upto_region 1 with (fail)
  have hat1 := ((HouseAt.new w h 25).carry (below_new (w.alloc (LHo h)) (.cells #[.string m.name, .int .i64 m.to, .int .i64 m.spd, .int .i64 m.rise, .int .i64 m.fall] 27)));have mat1 := (MvAt.new (w.alloc (LHo h)) m 27);have hB := ((below_new w (LHo h)).alloc (by simp) (.cells #[.string m.name, .int .i64 m.to, .int .i64 m.spd, .int .i64 m.rise, .int .i64 m.fall] 27));have HH := lh (hh.grow hB);have hm1 : (w.alloc (LHo h)).heap.size = w.heap.size + 1 := by simp
  rw [hm1] at mat1;clear hm1;generalize ((w.alloc (LHo h)).alloc (.cells #[.string m.name, .int .i64 m.to, .int .i64 m.spd, .int .i64 m.rise, .int .i64 m.fall] 27)) = W0 at *;have HAT := lh hat1;have MAT := lh mat1;clear hat1 mat1
  go_upto_region 3 with (go_at_call 5; (with_reducible refine (awake_any _).mono ?_); rintro e w1 ⟨rfl, hbs⟩)
  replace HAT := lh (HAT.out.carry hbs);replace MAT := lh (MAT.out.carry hbs);replace HH := lh (HH.out.grow hbs);replace hB := hB.trans (hbs.mono hB.size);clear hbs;obtain ⟨k0, k1, k2, k3⟩ := HAT.out;obtain ⟨m0, m1, m2, m3, m4⟩ := MAT.out
  go_wp2_with (go_at_call 6; (with_reducible refine (HFE.out _ HH.out).mono ?_); rintro e w2 ⟨rfl, hbs⟩)
  go_ret;exact ⟨rfl, hB.trans (hbs.mono hB.size)⟩
 have hh1 := few_in hh hb;clear hb hh;obtain ⟨t, ht⟩ := top_some35 h f m;obtain ⟨i, hi⟩ := nm (namI h m);obtain ⟨E, hE⟩ := nm (setE h m);obtain ⟨G, hG⟩ := nm (mgE h f m);obtain ⟨R, hR⟩ := nm (rchB h m);obtain ⟨P, hP⟩ := nm (endP h f m t);have HRE : Hid (∀ w : World, HouseIn w h → Calls Tryz.prog 15 #[.agg #[.string h.name, .int .i64 h.height, .slice h.sa h.sets.length h.sc, .slice h.ra h.roofs.length h.rc], .agg #[.string m.name, .int .i64 m.to, .int .i64 m.spd, .int .i64 m.rise, .int .i64 m.fall]] w fun e w' => e = .returned (.tuple #[.bool R, .int .i64 E]) ∧ Below w.heap.size w w') := lh fun w hh => by have := mreach_any h m w hh; rwa [hR, hE] at this
 have HNA : Hid (∀ w : World, HouseIn w h → Calls Tryz.prog 16 #[.agg #[.string h.name, .int .i64 h.height, .slice h.sa h.sets.length h.sc, .slice h.ra h.roofs.length h.rc], .agg #[.string m.name, .int .i64 m.to, .int .i64 m.spd, .int .i64 m.rise, .int .i64 m.fall]] w fun e w' => e = .returned (.tuple #[.int .i64 i, .int .i64 E]) ∧ Below w.heap.size w w') := lh fun w hh => by have := rnamed_any h m w hh; rwa [hi, hE] at this
 have HGI : Hid (∀ w : World, HouseIn w h → Calls Tryz.prog 9 #[.agg #[.string h.name, .int .i64 h.height, .slice h.sa h.sets.length h.sc, .slice h.ra h.roofs.length h.rc], .int .i64 f, .agg #[.string m.name, .int .i64 m.to, .int .i64 m.spd, .int .i64 m.rise, .int .i64 m.fall]] w fun e w' => e = .returned (.int .i64 G) ∧ Below w.heap.size w w') := lh fun w hh => by have := rgiven_any h f m w hh; rwa [hG] at this
 have HEN : Hid (∀ w : World, HouseIn w h → Calls Tryz.prog 14 #[.agg #[.string h.name, .int .i64 h.height, .slice h.sa h.sets.length h.sc, .slice h.ra h.roofs.length h.rc], .int .i64 f, .agg #[.string m.name, .int .i64 m.to, .int .i64 m.spd, .int .i64 m.rise, .int .i64 m.fall]] w fun e w' => e = .returned (.tuple #[.agg #[.int .i64 P.1, .int .i64 P.2], .int .i64 G]) ∧ Below w.heap.size w w') := lh fun w hh => by have := mend_any h f m t ht w hh; rwa [hG, hP] at this
 by_cases g0 : G = 0
 case neg =>
  have HP0 : Hid (P = (0, 0)) := lh (by rw [← hP]; unfold endP; rw [if_neg (by rw [hG]; exact g0)]);rw [HP0.out] at HEN
  have HPA : Hid (∀ w : World, HouseIn w h → Calls Tryz.prog 13 #[.agg #[.string h.name, .int .i64 h.height, .slice h.sa h.sets.length h.sc, .slice h.ra h.roofs.length h.rc], .int .i64 f, .agg #[.string m.name, .int .i64 m.to, .int .i64 m.spd, .int .i64 m.rise, .int .i64 m.fall]] w fun e w' => e = .returned (.tuple #[.slice none 0 0, .int .i64 G]) ∧ Below w.heap.size w w') := lh fun w hh => by 
   refine (mpath_any h f m t ht w hh).mono ?_;rintro e w' ⟨hx, hb⟩;obtain ⟨v, rfl, hv⟩ := hx.out;rw [hv.2 (by rw [hG]; exact g0), hG];exact ⟨rfl, hb⟩
  by_cases e0 : E = 0
  case neg =>
   have HGE : Hid (G = E) := lh (by rw [← hG]; unfold mgE; rw [hE, if_neg e0]);have HR0 : Hid (R = false) := lh (by rw [← hR]; unfold rchB; rw [if_neg (by rw [hE]; exact e0)]);rw [HGE.out] at HEN HPA HGI;rw [HR0.out] at HRE;have z1 : (E != 0) = true := by simpa using e0
   clear ht hi hE hG hR hP g0 e0 HP0
   go_enter Tryz.func4, Tryz.ntmps4
   go_upto_region 1 with (fail)
   have hat1 := ((HouseAt.new w h 25).carry (below_new (w.alloc (LHo h)) (.cells #[.string m.name, .int .i64 m.to, .int .i64 m.spd, .int .i64 m.rise, .int .i64 m.fall] 27)));have mat1 := (MvAt.new (w.alloc (LHo h)) m 27);have hB := ((below_new w (LHo h)).alloc (by simp) (.cells #[.string m.name, .int .i64 m.to, .int .i64 m.spd, .int .i64 m.rise, .int .i64 m.fall] 27));have HH := lh (hh1.grow hB);have hm1 : (w.alloc (LHo h)).heap.size = w.heap.size + 1 := by simp
   rw [hm1] at mat1;clear hm1;generalize ((w.alloc (LHo h)).alloc (.cells #[.string m.name, .int .i64 m.to, .int .i64 m.spd, .int .i64 m.rise, .int .i64 m.fall] 27)) = W0 at *;have HAT := lh hat1;have MAT := lh mat1;clear hat1 mat1
   go_upto_region 3 with (go_at_call 5; (with_reducible refine (awake_any _).mono ?_); rintro e w1 ⟨rfl, hbs⟩)
   replace HAT := lh (HAT.out.carry hbs);replace MAT := lh (MAT.out.carry hbs);replace HH := lh (HH.out.grow hbs);replace hB := hB.trans (hbs.mono hB.size);clear hbs;obtain ⟨k0, k1, k2, k3⟩ := HAT.out;obtain ⟨m0, m1, m2, m3, m4⟩ := MAT.out
   go_upto_region 5 with (go_at_call 6; (with_reducible refine (HFE.out _ HH.out.toHouseIn0).mono ?_); rintro e w2 ⟨rfl, hbs⟩)
   clear k0 k1 k2 k3 m0 m1 m2 m3 m4;replace HAT := lh (HAT.out.carry hbs);replace MAT := lh (MAT.out.carry hbs);replace HH := lh (HH.out.grow hbs);replace hB := hB.trans (hbs.mono hB.size);clear hbs;obtain ⟨k0, k1, k2, k3⟩ := HAT.out;obtain ⟨m0, m1, m2, m3, m4⟩ := MAT.out
   go_upto_region 6 with (go_at_call 13; (with_reducible refine (HPA.out _ HH.out).mono ?_); rintro e w3 ⟨rfl, hbs⟩)
   clear k0 k1 k2 k3 m0 m1 m2 m3 m4;replace HAT := lh (HAT.out.carry hbs);replace MAT := lh (MAT.out.carry hbs);replace HH := lh (HH.out.grow hbs);replace hB := hB.trans (hbs.mono hB.size);clear hbs;obtain ⟨k0, k1, k2, k3⟩ := HAT.out;obtain ⟨m0, m1, m2, m3, m4⟩ := MAT.out
   go_upto_region 7 with (go_at_call 14; (with_reducible refine (HEN.out _ HH.out).mono ?_); rintro e w4 ⟨rfl, hbs⟩)
   clear k0 k1 k2 k3 m0 m1 m2 m3 m4;replace HAT := lh (HAT.out.carry hbs);replace MAT := lh (MAT.out.carry hbs);replace HH := lh (HH.out.grow hbs);replace hB := hB.trans (hbs.mono hB.size);clear hbs;have hbn := below_new w4 (.cells #[.int .i64 0, .int .i64 0] 29);have hF := FI.put w4 (0) (0) 29;replace HAT := lh (HAT.out.carry hbn);replace MAT := lh (MAT.out.carry hbn);replace HH := lh (HH.out.grow hbn);replace hB := hB.trans (hbn.mono hB.size);clear hbn;obtain ⟨Bp, hBq⟩ := nm (w4.heap.size);simp only [hBq] at hF ⊢;have FP := lh hF;clear hF;generalize w4.alloc (.cells #[.int .i64 0, .int .i64 0] 29) = W4 at *;clear hBq;obtain ⟨k0, k1, k2, k3⟩ := HAT.out;obtain ⟨m0, m1, m2, m3, m4⟩ := MAT.out
   go_upto_region 8 with (go_at_call 15; (with_reducible refine (HRE.out _ HH.out).mono ?_); rintro e w5 ⟨rfl, hbs⟩)
   clear k0 k1 k2 k3 m0 m1 m2 m3 m4;replace HAT := lh (HAT.out.carry hbs);replace MAT := lh (MAT.out.carry hbs);replace HH := lh (HH.out.grow hbs);replace FP := lh (FP.out.carry hbs);replace hB := hB.trans (hbs.mono hB.size);clear hbs;obtain ⟨k0, k1, k2, k3⟩ := HAT.out;obtain ⟨m0, m1, m2, m3, m4⟩ := MAT.out
   go_upto_region 9 with (go_at_call 16; (with_reducible refine (HNA.out _ HH.out).mono ?_); rintro e w6 ⟨rfl, hbs⟩)
   clear k0 k1 k2 k3 m0 m1 m2 m3 m4;replace HAT := lh (HAT.out.carry hbs);replace MAT := lh (MAT.out.carry hbs);replace HH := lh (HH.out.grow hbs);replace FP := lh (FP.out.carry hbs);replace hB := hB.trans (hbs.mono hB.size);clear hbs;obtain ⟨p0, p1, _, _, _⟩ := FP.out
   go_wp2_with fail
   go_ret;exact ⟨rfl, hB⟩
  subst e0;obtain ⟨-, -, s0, s1, hx⟩ := set_ok hE;have HRX : Hid (R = reachB (setO h m) m.to) := lh (by rw [← hR]; unfold rchB; rw [if_pos hE]);have hni : setI h m = i := by rw [← hi]; unfold namI; rw [if_pos hE]
  obtain ⟨k, hk⟩ : ∃ k : Nat, i = k := ⟨i.toNat, by omega⟩;subst hk;rw [hni, Int.toNat_natCast] at s1 hx;obtain ⟨x, hxx⟩ := nm (hg h.sets k);rw [hxx] at hx;rw [hx] at HRX;have HXX := lh hxx;have i1 : (k : Int) < (h.sets.length : Int) := by omega
  have hslen : h.sets.length ≤ h.sc := hh1.scap;have z1 : (G != 0) = true := by simpa using g0
  have HRR := lh (rreach_any x m.to);rw [← HRX.out] at HRR;clear ht hi hE hG hP g0 HP0 hx hxx hni s0 hR HRX
  go_enter Tryz.func4, Tryz.ntmps4
  go_upto_region 1 with (fail)
  have hat1 := ((HouseAt.new w h 25).carry (below_new (w.alloc (LHo h)) (.cells #[.string m.name, .int .i64 m.to, .int .i64 m.spd, .int .i64 m.rise, .int .i64 m.fall] 27)));have mat1 := (MvAt.new (w.alloc (LHo h)) m 27);have hB := ((below_new w (LHo h)).alloc (by simp) (.cells #[.string m.name, .int .i64 m.to, .int .i64 m.spd, .int .i64 m.rise, .int .i64 m.fall] 27));have HH := lh (hh1.grow hB);have hm1 : (w.alloc (LHo h)).heap.size = w.heap.size + 1 := by simp
  rw [hm1] at mat1;clear hm1;generalize ((w.alloc (LHo h)).alloc (.cells #[.string m.name, .int .i64 m.to, .int .i64 m.spd, .int .i64 m.rise, .int .i64 m.fall] 27)) = W0 at *;have HAT := lh hat1;have MAT := lh mat1;clear hat1 mat1
  go_upto_region 3 with (go_at_call 5; (with_reducible refine (awake_any _).mono ?_); rintro e w1 ⟨rfl, hbs⟩)
  replace HAT := lh (HAT.out.carry hbs);replace MAT := lh (MAT.out.carry hbs);replace HH := lh (HH.out.grow hbs);replace hB := hB.trans (hbs.mono hB.size);clear hbs;obtain ⟨k0, k1, k2, k3⟩ := HAT.out;obtain ⟨m0, m1, m2, m3, m4⟩ := MAT.out
  go_upto_region 5 with (go_at_call 6; (with_reducible refine (HFE.out _ HH.out.toHouseIn0).mono ?_); rintro e w2 ⟨rfl, hbs⟩)
  clear k0 k1 k2 k3 m0 m1 m2 m3 m4;replace HAT := lh (HAT.out.carry hbs);replace MAT := lh (MAT.out.carry hbs);replace HH := lh (HH.out.grow hbs);replace hB := hB.trans (hbs.mono hB.size);clear hbs;obtain ⟨k0, k1, k2, k3⟩ := HAT.out;obtain ⟨m0, m1, m2, m3, m4⟩ := MAT.out
  go_upto_region 6 with (go_at_call 13; (with_reducible refine (HPA.out _ HH.out).mono ?_); rintro e w3 ⟨rfl, hbs⟩)
  clear k0 k1 k2 k3 m0 m1 m2 m3 m4;replace HAT := lh (HAT.out.carry hbs);replace MAT := lh (MAT.out.carry hbs);replace HH := lh (HH.out.grow hbs);replace hB := hB.trans (hbs.mono hB.size);clear hbs;obtain ⟨k0, k1, k2, k3⟩ := HAT.out;obtain ⟨m0, m1, m2, m3, m4⟩ := MAT.out
  go_upto_region 7 with (go_at_call 14; (with_reducible refine (HEN.out _ HH.out).mono ?_); rintro e w4 ⟨rfl, hbs⟩)
  clear k0 k1 k2 k3 m0 m1 m2 m3 m4;replace HAT := lh (HAT.out.carry hbs);replace MAT := lh (MAT.out.carry hbs);replace HH := lh (HH.out.grow hbs);replace hB := hB.trans (hbs.mono hB.size);clear hbs;have hbn := below_new w4 (.cells #[.int .i64 0, .int .i64 0] 29);have hF := FI.put w4 (0) (0) 29;replace HAT := lh (HAT.out.carry hbn);replace MAT := lh (MAT.out.carry hbn);replace HH := lh (HH.out.grow hbn);replace hB := hB.trans (hbn.mono hB.size);clear hbn;obtain ⟨Bp, hBq⟩ := nm (w4.heap.size);simp only [hBq] at hF ⊢;have FP := lh hF;clear hF;generalize w4.alloc (.cells #[.int .i64 0, .int .i64 0] 29) = W4 at *;clear hBq;obtain ⟨k0, k1, k2, k3⟩ := HAT.out;obtain ⟨m0, m1, m2, m3, m4⟩ := MAT.out
  go_upto_region 8 with (go_at_call 15; (with_reducible refine (HRE.out _ HH.out).mono ?_); rintro e w5 ⟨rfl, hbs⟩)
  clear k0 k1 k2 k3 m0 m1 m2 m3 m4;replace HAT := lh (HAT.out.carry hbs);replace MAT := lh (MAT.out.carry hbs);replace HH := lh (HH.out.grow hbs);replace FP := lh (FP.out.carry hbs);replace hB := hB.trans (hbs.mono hB.size);clear hbs;obtain ⟨k0, k1, k2, k3⟩ := HAT.out;obtain ⟨m0, m1, m2, m3, m4⟩ := MAT.out
  go_upto_region 9 with (go_at_call 16; (with_reducible refine (HNA.out _ HH.out).mono ?_); rintro e w6 ⟨rfl, hbs⟩)
  clear k0 k1 k2 k3 m0 m1 m2 m3 m4;replace HAT := lh (HAT.out.carry hbs);replace MAT := lh (MAT.out.carry hbs);replace HH := lh (HH.out.grow hbs);replace FP := lh (FP.out.carry hbs);replace hB := hB.trans (hbs.mono hB.size);clear hbs
  go_upto_region 11 with (fail)
  obtain ⟨bs, off, hsa, hb, hc⟩ := HH.out.sets (by omega);obtain ⟨c0, c1, c2, c3, c4, c5, c6, c7, c8, c9, c10, c11, c12⟩ := hc k s1;rw [HXX.out] at c0 c1 c2 c3 c4 c5 c6 c7 c8 c9 c10 c11 c12;have d0 : ∀ w', Below w6.heap.size w6 w' → w'.cell? ⟨bs, off + k * 13, none⟩ = some (.string x.name) := fun w' z => (z.cell (p := ⟨bs, _, none⟩) hb).trans c0;have d1 : ∀ w', Below w6.heap.size w6 w' → w'.cell? ⟨bs, off + k * 13 + 1, none⟩ = some (.int .i64 x.depth) := fun w' z => (z.cell (p := ⟨bs, _, none⟩) hb).trans c1;have d2 : ∀ w', Below w6.heap.size w6 w' → w'.cell? ⟨bs, off + k * 13 + 2, none⟩ = some (.int .i64 x.low) := fun w' z => (z.cell (p := ⟨bs, _, none⟩) hb).trans c2;have d3 : ∀ w', Below w6.heap.size w6 w' → w'.cell? ⟨bs, off + k * 13 + 3, none⟩ = some (.int .i64 x.high) := fun w' z => (z.cell (p := ⟨bs, _, none⟩) hb).trans c3;have d4 : ∀ w', Below w6.heap.size w6 w' → w'.cell? ⟨bs, off + k * 13 + 4, none⟩ = some (.int .i64 x.length) := fun w' z => (z.cell (p := ⟨bs, _, none⟩) hb).trans c4;have d5 : ∀ w', Below w6.heap.size w6 w' → w'.cell? ⟨bs, off + k * 13 + 5, none⟩ = some (.slice x.la x.lines.length x.lc) := fun w' z => (z.cell (p := ⟨bs, _, none⟩) hb).trans c5;have d6 : ∀ w', Below w6.heap.size w6 w' → w'.cell? ⟨bs, off + k * 13 + 6, none⟩ = some (.int .i64 x.pipe) := fun w' z => (z.cell (p := ⟨bs, _, none⟩) hb).trans c6;have d7 : ∀ w', Below w6.heap.size w6 w' → w'.cell? ⟨bs, off + k * 13 + 7, none⟩ = some (.int .i64 x.arbor) := fun w' z => (z.cell (p := ⟨bs, _, none⟩) hb).trans c7;have d8 : ∀ w', Below w6.heap.size w6 w' → w'.cell? ⟨bs, off + k * 13 + 8, none⟩ = some (.int .i64 x.purchase) := fun w' z => (z.cell (p := ⟨bs, _, none⟩) hb).trans c8;have d9 : ∀ w', Below w6.heap.size w6 w' → w'.cell? ⟨bs, off + k * 13 + 9, none⟩ = some (.int .i64 x.most) := fun w' z => (z.cell (p := ⟨bs, _, none⟩) hb).trans c9;have d10 : ∀ w', Below w6.heap.size w6 w' → w'.cell? ⟨bs, off + k * 13 + 10, none⟩ = some (.int .i64 x.brake) := fun w' z => (z.cell (p := ⟨bs, _, none⟩) hb).trans c10;have d11 : ∀ w', Below w6.heap.size w6 w' → w'.cell? ⟨bs, off + k * 13 + 11, none⟩ = some (.slice x.ia x.items.length x.ic) := fun w' z => (z.cell (p := ⟨bs, _, none⟩) hb).trans c11;have d12 : ∀ w', Below w6.heap.size w6 w' → w'.cell? ⟨bs, off + k * 13 + 12, none⟩ = some (.slice x.ba x.bricks.length x.bc) := fun w' z => (z.cell (p := ⟨bs, _, none⟩) hb).trans c12;have k2 : ∀ w', Below w6.heap.size w6 w' → w'.cell? ⟨w.heap.size, 2, none⟩ = some (.slice (some ⟨bs, off, none⟩) h.sets.length h.sc) := fun w' z => by have := (HAT.out.carry z).2.2.1; rwa [hsa] at this
  have m1 : ∀ w', Below w6.heap.size w6 w' → w'.cell? ⟨w.heap.size + 1, 1, none⟩ = some (.int .i64 m.to) := fun w' z => (MAT.out.carry z).2.1;clear hc c0 c1 c2 c3 c4 c5 c6 c7 c8 c9 c10 c11 c12 hsa;refine wp_region_held_drew (S := fun w' => Below w6.heap.size w6 w') (by kernel_rfl) (br).drew (fun hHeld => ?_);refine tk 0 ?_; refine tk 1 ?_; refine tk 2 ?_; refine tk 3 ?_; refine tk 4 ?_; refine tk 5 ?_; refine tk 6 ?_; refine tk 7 ?_;refine cl 8 (HRR.out _) (fun _ hb => hHeld.trans (hb.mono hHeld.size)) (fun y1 hb hbs => ?_);refine tk 9 ?_; refine tk 10 ?_; refine tk 11 ?_; refine tk 12 ?_; refine tk 13 ?_; refine dn ?_;clear k2 m1 d0 d1 d2 d3 d4 d5 d6 d7 d8 d9 d10 d11 d12 hHeld hb;replace HAT := lh (HAT.out.carry hbs);replace MAT := lh (MAT.out.carry hbs);replace HH := lh (HH.out.grow hbs);replace FP := lh (FP.out.carry hbs);replace hB := hB.trans (hbs.mono hB.size);clear hbs;obtain ⟨k0, k1, k2, k3⟩ := HAT.out;obtain ⟨m0, m1, m2, m3, m4⟩ := MAT.out
  go_upto_region 14 with (go_at_call 9; (with_reducible refine (HGI.out _ HH.out).mono ?_); rintro e w8 ⟨rfl, hbs⟩)
  clear k0 k1 k2 k3 m0 m1 m2 m3 m4;replace HAT := lh (HAT.out.carry hbs);replace MAT := lh (MAT.out.carry hbs);replace HH := lh (HH.out.grow hbs);replace FP := lh (FP.out.carry hbs);replace hB := hB.trans (hbs.mono hB.size);clear hbs;obtain ⟨p0, p1, _, _, _⟩ := FP.out
  go_wp2_with fail
  go_ret;exact ⟨rfl, hB⟩
 subst g0
 have HE0 : Hid (E = 0) := lh (by
  rw [← hE]
  by_cases c : setE h m = 0
  ·exact c
  ·unfold mgE at hG; rw [if_neg c] at hG; exact absurd hG c)
 obtain rfl := HE0.out;obtain ⟨-, -, s0, s1, hx⟩ := set_ok hE;have HRX : Hid (R = reachB (setO h m) m.to) := lh (by rw [← hR]; unfold rchB; rw [if_pos hE]);have hni : setI h m = i := by rw [← hi]; unfold namI; rw [if_pos hE]
 obtain ⟨k, hk⟩ : ∃ k : Nat, i = k := ⟨i.toNat, by omega⟩;subst hk;rw [hni, Int.toNat_natCast] at s1 hx;obtain ⟨x, hxx⟩ := nm (hg h.sets k);rw [hxx] at hx;rw [hx] at HRX;have HXX := lh hxx;have i1 : (k : Int) < (h.sets.length : Int) := by omega
 have hslen : h.sets.length ≤ h.sc := hh1.scap;have HRR := lh (rreach_any x m.to);rw [← HRX.out] at HRR;obtain ⟨_, _, f0, f1, t0, t1, gd, _, _, _⟩ := mg_ok hG;have HRP := lh fun w => rpath_any h f m t hG (ht hG) w;obtain ⟨L, hL⟩ := nm (mpL f m t)
 have HLL : Hid (L.length ≤ 1100) := lh (by
  have := (move_c gd (ht hG)).len;rw [← hL];unfold mpL;rw [path_len];omega)
 rw [hL] at HRP
 have HPA : Hid (∀ w : World, HouseIn w h → Calls Tryz.prog 13 #[.agg #[.string h.name, .int .i64 h.height, .slice h.sa h.sets.length h.sc, .slice h.ra h.roofs.length h.rc], .int .i64 f, .agg #[.string m.name, .int .i64 m.to, .int .i64 m.spd, .int .i64 m.rise, .int .i64 m.fall]] w fun e w' => Hid (∃ b, e = .returned (.tuple #[.slice (some ⟨b, 0, none⟩) L.length L.length, .int .i64 0]) ∧ Pcs w'.heap.size w' (some ⟨b, 0, none⟩) L) ∧ Below w.heap.size w w') := lh fun w hh => by
  refine (mpath_any h f m t ht w hh).mono ?_;rintro e w' ⟨hx, hb⟩;obtain ⟨v, rfl, hv⟩ := hx.out;obtain ⟨b, rfl, hp⟩ := hv.1 hG;rw [hL] at hp ⊢;rw [hG];exact ⟨lh ⟨b, rfl, hp⟩, hb⟩
 have HDI : Hid (∀ w : World, Calls Tryz.prog 21 #[.int .i64 f, .int .i64 m.to] w fun e w' => e = .returned (.int .i64 (mgD f m)) ∧ w = w') := lh fun w => rdist_any f m.to ⟨f0, f1⟩ ⟨t0, t1⟩ w
 have HTI : Hid (∀ w : World, Calls Tryz.prog 20 #[.int .i64 (mgD f m), .agg #[.string m.name, .int .i64 m.to, .int .i64 m.spd, .int .i64 m.rise, .int .i64 m.fall]] w fun e w' => e = .returned (.agg #[.int .i64 P.1, .int .i64 P.2]) ∧ Below w.heap.size w w') := lh fun w => by
  have := rtime_any (mgD f m) m t gd (ht hG) w
  rwa [show timeP (mgD f m) m t = P by rw [← hP]; unfold endP; rw [if_pos hG]] at this
 obtain ⟨d, hd⟩ := nm (mgD f m);rw [hd] at HDI HTI;clear ht hi hE hG hP hx hxx hni s0 hR HRX hL hd gd f0 f1 t0 t1 HE0
 go_enter Tryz.func4, Tryz.ntmps4
 go_upto_region 1 with (fail)
 have hat1 := ((HouseAt.new w h 25).carry (below_new (w.alloc (LHo h)) (.cells #[.string m.name, .int .i64 m.to, .int .i64 m.spd, .int .i64 m.rise, .int .i64 m.fall] 27)));have mat1 := (MvAt.new (w.alloc (LHo h)) m 27);have hB := ((below_new w (LHo h)).alloc (by simp) (.cells #[.string m.name, .int .i64 m.to, .int .i64 m.spd, .int .i64 m.rise, .int .i64 m.fall] 27));have HH := lh (hh1.grow hB);have hm1 : (w.alloc (LHo h)).heap.size = w.heap.size + 1 := by simp
 rw [hm1] at mat1;clear hm1;generalize ((w.alloc (LHo h)).alloc (.cells #[.string m.name, .int .i64 m.to, .int .i64 m.spd, .int .i64 m.rise, .int .i64 m.fall] 27)) = W0 at *;have HAT := lh hat1;have MAT := lh mat1;clear hat1 mat1
 go_upto_region 3 with (go_at_call 5; (with_reducible refine (awake_any _).mono ?_); rintro e w1 ⟨rfl, hbs⟩)
 replace HAT := lh (HAT.out.carry hbs);replace MAT := lh (MAT.out.carry hbs);replace HH := lh (HH.out.grow hbs);replace hB := hB.trans (hbs.mono hB.size);clear hbs;obtain ⟨k0, k1, k2, k3⟩ := HAT.out;obtain ⟨m0, m1, m2, m3, m4⟩ := MAT.out
 go_upto_region 5 with (go_at_call 6; (with_reducible refine (HFE.out _ HH.out.toHouseIn0).mono ?_); rintro e w2 ⟨rfl, hbs⟩)
 clear k0 k1 k2 k3 m0 m1 m2 m3 m4;replace HAT := lh (HAT.out.carry hbs);replace MAT := lh (MAT.out.carry hbs);replace HH := lh (HH.out.grow hbs);replace hB := hB.trans (hbs.mono hB.size);clear hbs;obtain ⟨k0, k1, k2, k3⟩ := HAT.out;obtain ⟨m0, m1, m2, m3, m4⟩ := MAT.out
 go_upto_region 6 with (go_at_call 13; (with_reducible refine (HPA.out _ HH.out).mono ?_); rintro e w3 ⟨hx, hbs⟩; obtain ⟨ba, rfl, hv⟩ := hx.out)
 clear k0 k1 k2 k3 m0 m1 m2 m3 m4;replace HAT := lh (HAT.out.carry hbs);replace MAT := lh (MAT.out.carry hbs);replace HH := lh (HH.out.grow hbs);replace hB := hB.trans (hbs.mono hB.size);clear hbs;have HPC := lh hv;clear hv hx;obtain ⟨k0, k1, k2, k3⟩ := HAT.out;obtain ⟨m0, m1, m2, m3, m4⟩ := MAT.out
 go_upto_region 7 with (go_at_call 14; (with_reducible refine (HEN.out _ HH.out).mono ?_); rintro e w4 ⟨rfl, hbs⟩)
 clear k0 k1 k2 k3 m0 m1 m2 m3 m4;replace HAT := lh (HAT.out.carry hbs);replace MAT := lh (MAT.out.carry hbs);replace HH := lh (HH.out.grow hbs);replace HPC := lh (HPC.out.grow hbs);replace hB := hB.trans (hbs.mono hB.size);clear hbs;have hbn := below_new w4 (.cells #[.int .i64 P.1, .int .i64 P.2] 29);have hF := FI.put w4 (P.1) (P.2) 29;replace HAT := lh (HAT.out.carry hbn);replace MAT := lh (MAT.out.carry hbn);replace HH := lh (HH.out.grow hbn);replace HPC := lh (HPC.out.grow hbn);replace hB := hB.trans (hbn.mono hB.size);clear hbn;obtain ⟨Bp, hBq⟩ := nm (w4.heap.size);simp only [hBq] at hF ⊢;have FP := lh hF;clear hF;generalize w4.alloc (.cells #[.int .i64 P.1, .int .i64 P.2] 29) = W4 at *;clear hBq;obtain ⟨k0, k1, k2, k3⟩ := HAT.out;obtain ⟨m0, m1, m2, m3, m4⟩ := MAT.out
 go_upto_region 8 with (go_at_call 15; (with_reducible refine (HRE.out _ HH.out).mono ?_); rintro e w5 ⟨rfl, hbs⟩)
 clear k0 k1 k2 k3 m0 m1 m2 m3 m4;replace HAT := lh (HAT.out.carry hbs);replace MAT := lh (MAT.out.carry hbs);replace HH := lh (HH.out.grow hbs);replace HPC := lh (HPC.out.grow hbs);replace FP := lh (FP.out.carry hbs);replace hB := hB.trans (hbs.mono hB.size);clear hbs;obtain ⟨k0, k1, k2, k3⟩ := HAT.out;obtain ⟨m0, m1, m2, m3, m4⟩ := MAT.out
 go_upto_region 9 with (go_at_call 16; (with_reducible refine (HNA.out _ HH.out).mono ?_); rintro e w6 ⟨rfl, hbs⟩)
 clear k0 k1 k2 k3 m0 m1 m2 m3 m4;replace HAT := lh (HAT.out.carry hbs);replace MAT := lh (MAT.out.carry hbs);replace HH := lh (HH.out.grow hbs);replace HPC := lh (HPC.out.grow hbs);replace FP := lh (FP.out.carry hbs);replace hB := hB.trans (hbs.mono hB.size);clear hbs
 go_upto_region 11 with (fail)
 obtain ⟨bs, off, hsa, hb, hc⟩ := HH.out.sets (by omega);obtain ⟨c0, c1, c2, c3, c4, c5, c6, c7, c8, c9, c10, c11, c12⟩ := hc k s1;rw [HXX.out] at c0 c1 c2 c3 c4 c5 c6 c7 c8 c9 c10 c11 c12;have d0 : ∀ w', Below w6.heap.size w6 w' → w'.cell? ⟨bs, off + k * 13, none⟩ = some (.string x.name) := fun w' z => (z.cell (p := ⟨bs, _, none⟩) hb).trans c0;have d1 : ∀ w', Below w6.heap.size w6 w' → w'.cell? ⟨bs, off + k * 13 + 1, none⟩ = some (.int .i64 x.depth) := fun w' z => (z.cell (p := ⟨bs, _, none⟩) hb).trans c1;have d2 : ∀ w', Below w6.heap.size w6 w' → w'.cell? ⟨bs, off + k * 13 + 2, none⟩ = some (.int .i64 x.low) := fun w' z => (z.cell (p := ⟨bs, _, none⟩) hb).trans c2;have d3 : ∀ w', Below w6.heap.size w6 w' → w'.cell? ⟨bs, off + k * 13 + 3, none⟩ = some (.int .i64 x.high) := fun w' z => (z.cell (p := ⟨bs, _, none⟩) hb).trans c3;have d4 : ∀ w', Below w6.heap.size w6 w' → w'.cell? ⟨bs, off + k * 13 + 4, none⟩ = some (.int .i64 x.length) := fun w' z => (z.cell (p := ⟨bs, _, none⟩) hb).trans c4;have d5 : ∀ w', Below w6.heap.size w6 w' → w'.cell? ⟨bs, off + k * 13 + 5, none⟩ = some (.slice x.la x.lines.length x.lc) := fun w' z => (z.cell (p := ⟨bs, _, none⟩) hb).trans c5;have d6 : ∀ w', Below w6.heap.size w6 w' → w'.cell? ⟨bs, off + k * 13 + 6, none⟩ = some (.int .i64 x.pipe) := fun w' z => (z.cell (p := ⟨bs, _, none⟩) hb).trans c6;have d7 : ∀ w', Below w6.heap.size w6 w' → w'.cell? ⟨bs, off + k * 13 + 7, none⟩ = some (.int .i64 x.arbor) := fun w' z => (z.cell (p := ⟨bs, _, none⟩) hb).trans c7;have d8 : ∀ w', Below w6.heap.size w6 w' → w'.cell? ⟨bs, off + k * 13 + 8, none⟩ = some (.int .i64 x.purchase) := fun w' z => (z.cell (p := ⟨bs, _, none⟩) hb).trans c8;have d9 : ∀ w', Below w6.heap.size w6 w' → w'.cell? ⟨bs, off + k * 13 + 9, none⟩ = some (.int .i64 x.most) := fun w' z => (z.cell (p := ⟨bs, _, none⟩) hb).trans c9;have d10 : ∀ w', Below w6.heap.size w6 w' → w'.cell? ⟨bs, off + k * 13 + 10, none⟩ = some (.int .i64 x.brake) := fun w' z => (z.cell (p := ⟨bs, _, none⟩) hb).trans c10;have d11 : ∀ w', Below w6.heap.size w6 w' → w'.cell? ⟨bs, off + k * 13 + 11, none⟩ = some (.slice x.ia x.items.length x.ic) := fun w' z => (z.cell (p := ⟨bs, _, none⟩) hb).trans c11;have d12 : ∀ w', Below w6.heap.size w6 w' → w'.cell? ⟨bs, off + k * 13 + 12, none⟩ = some (.slice x.ba x.bricks.length x.bc) := fun w' z => (z.cell (p := ⟨bs, _, none⟩) hb).trans c12;have k2 : ∀ w', Below w6.heap.size w6 w' → w'.cell? ⟨w.heap.size, 2, none⟩ = some (.slice (some ⟨bs, off, none⟩) h.sets.length h.sc) := fun w' z => by have := (HAT.out.carry z).2.2.1; rwa [hsa] at this
 have m1 : ∀ w', Below w6.heap.size w6 w' → w'.cell? ⟨w.heap.size + 1, 1, none⟩ = some (.int .i64 m.to) := fun w' z => (MAT.out.carry z).2.1;clear hc c0 c1 c2 c3 c4 c5 c6 c7 c8 c9 c10 c11 c12 hsa;refine wp_region_held_drew (S := fun w' => Below w6.heap.size w6 w') (by kernel_rfl) (br).drew (fun hHeld => ?_);refine tk 0 ?_; refine tk 1 ?_; refine tk 2 ?_; refine tk 3 ?_; refine tk 4 ?_; refine tk 5 ?_; refine tk 6 ?_; refine tk 7 ?_;refine cl 8 (HRR.out _) (fun _ hb => hHeld.trans (hb.mono hHeld.size)) (fun y1 hb hbs => ?_);refine tk 9 ?_; refine tk 10 ?_; refine tk 11 ?_; refine tk 12 ?_; refine tk 13 ?_; refine dn ?_;clear k2 m1 d0 d1 d2 d3 d4 d5 d6 d7 d8 d9 d10 d11 d12 hHeld hb;replace HAT := lh (HAT.out.carry hbs);replace MAT := lh (MAT.out.carry hbs);replace HH := lh (HH.out.grow hbs);replace HPC := lh (HPC.out.grow hbs);replace FP := lh (FP.out.carry hbs);replace hB := hB.trans (hbs.mono hB.size);clear hbs;obtain ⟨k0, k1, k2, k3⟩ := HAT.out;obtain ⟨m0, m1, m2, m3, m4⟩ := MAT.out
 go_upto_region 14 with (go_at_call 9; (with_reducible refine (HGI.out _ HH.out).mono ?_); rintro e w8 ⟨rfl, hbs⟩)
 clear k0 k1 k2 k3 m0 m1 m2 m3 m4;replace HAT := lh (HAT.out.carry hbs);replace MAT := lh (MAT.out.carry hbs);replace HH := lh (HH.out.grow hbs);replace HPC := lh (HPC.out.grow hbs);replace FP := lh (FP.out.carry hbs);replace hB := hB.trans (hbs.mono hB.size);clear hbs
 go_upto_region 16 with (fail)
 have m0 : ∀ w', Below w8.heap.size w8 w' → w'.cell? ⟨w.heap.size + 1, 0, none⟩ = some (.string m.name) := fun w' z => (MAT.out.carry z).1;have m1 : ∀ w', Below w8.heap.size w8 w' → w'.cell? ⟨w.heap.size + 1, 1, none⟩ = some (.int .i64 m.to) := fun w' z => (MAT.out.carry z).2.1;have m2 : ∀ w', Below w8.heap.size w8 w' → w'.cell? ⟨w.heap.size + 1, 2, none⟩ = some (.int .i64 m.spd) := fun w' z => (MAT.out.carry z).2.2.1;have m3 : ∀ w', Below w8.heap.size w8 w' → w'.cell? ⟨w.heap.size + 1, 3, none⟩ = some (.int .i64 m.rise) := fun w' z => (MAT.out.carry z).2.2.2.1;have m4 : ∀ w', Below w8.heap.size w8 w' → w'.cell? ⟨w.heap.size + 1, 4, none⟩ = some (.int .i64 m.fall) := fun w' z => (MAT.out.carry z).2.2.2.2;have p0 : ∀ w', Below w8.heap.size w8 w' → w'.cell? ⟨Bp, 0, none⟩ = some (.int .i64 P.1) := fun w' z => (FP.out.carry z).1;have p1 : ∀ w', Below w8.heap.size w8 w' → w'.cell? ⟨Bp, 1, none⟩ = some (.int .i64 P.2) := fun w' z => (FP.out.carry z).2.1;refine wp_region_held_drew (S := fun w' => Below w8.heap.size w8 w') (by kernel_rfl) (br).drew (fun hHeld => ?_);refine tk 0 ?_; refine tk 1 ?_; refine tk 2 ?_;refine clE 3 ((HRP.out _).mono fun e w' z => (let ⟨v, he, ho⟩ := z.1.out; ⟨v, he, ho, z.2⟩ : ∃ v, e = .returned v ∧ w'.ownsRow _ 81 8 v L.length (pcflat L) ∧ Below _ _ w')) (fun V w' z => hHeld.trans (z.2.mono hHeld.size)) (fun V y1 z hH1 => ?_);obtain ⟨pa, pcap, rfl, _, _, _, hP⟩ := pc_of_row z.1;refine cl 4 (same_any (some ⟨ba, 0, none⟩) pa L L.length pcap _ HLL.out (HPC.out.grow hH1) hP) (fun _ hb => hH1.trans (hb.mono hH1.size)) (fun y2 hb hH2 => ?_);refine tk 5 ?_; refine tk 6 ?_; refine tk 7 ?_; refine tk 8 ?_; refine tk 9 ?_; refine tk 10 ?_; refine tk 11 ?_; refine tk 12 ?_; refine tk 13 ?_; refine tq 14 (fun w' _ => HDI.out w') ?_; refine tk 15 ?_;refine cl 16 (HTI.out _) (fun _ hb => hH2.trans (hb.mono hH2.size)) (fun y3 hb3 hH3 => ?_);refine tk 17 ?_; refine tk 18 ?_; refine tk 19 ?_; refine tk 20 ?_; refine tk 21 ?_; refine tk 22 ?_; refine tk 23 ?_; refine dn ?_
 go_wp2_with fail
 go_ret;exact ⟨by first | rfl | simp, hB.trans (hH3.mono hB.size)⟩
end
section
open Go.ChangeShapes Go.WideShapes Go.ChangeAt Go.WideMaps Go.WideElems Go.RowKit
theorem own : ownKnob Tryz.prog.godebug = none := by kernel_rfl
theorem laidOut : laidOutB Tryz.prog = true := by kernel_rfl

section
variable {H : Type} {enc : TypeId × Value → H} {P : Program}
theorem post_of_below {f : Func} {s : ChangeSpec} {apart fresh handsOn again : Bool} {W W' : World} {args : Array Value} {v : Value} {ds gs : List (DataW H)} {before pa pv : List MemPlace}
  (hW : DataW.Whole enc P f.params.toList s.vars apart W args.toList ds gs before)
  (hres : ∀ (b : Nat) (sp : Nat → Bool) (hd : Bool), DataW.TrodAll enc P W' b sp hd f.resultTypes.toList (v.resultList f.resultTypes.size) (s.fn H (ds ++ gs)).results [])
  (hargs : ∀ sp : Nat → Bool, (∀ p ∈ before, sp p.block = true) → DataW.TrodAll enc P W' 0 sp true f.params.toList args.toList (s.fn H (ds ++ gs)).args pa)
  (hvars : ∀ sp : Nat → Bool, (∀ p ∈ before, sp p.block = true) → DataW.TrodVars enc P W' sp s.vars (s.fn H (ds ++ gs)).vars pv)
  (hps : before = pa ++ pv) (hb : Below W.heap.size W W')
  (hok : ∀ (j : Nat) (t : TypeId) (r : Value), f.resultTypes[j]? = some t → (v.resultList f.resultTypes.size)[j]? = some r → Value.okWide P W' .any 0 t r) :
  s.post enc P f apart fresh handsOn again W args v W' := by
 have hlt : ∀ p ∈ before, p.block < W.heap.size := fun p hp => hW.lt p hp;have hold : ∀ p ∈ before, (fun b => decide (b < W.heap.size)) p.block = true := fun p hp => by simpa using hlt p hp
 refine ⟨ds, gs, before, [], pa, pv, hW, hres _ _ _, hargs _ hold, hvars _ hold, World.keptBut_mono (fun p hp => ⟨hp, ?_⟩) (hb.frame (· ∈ before)), fun _ => ?_⟩
 ·rw [hps, List.mem_append] at hp
  exact Or.inr hp
 ·obtain ⟨_, _, _, _, _, hz, hn⟩ := hW
  refine ⟨hok, _, _, ([] ++ pa) ++ pv, ⟨[] ++ pa, pv, trodAll_append (hargs _ (fun _ _ => rfl)) (hres _ _ _), hvars _ (fun _ _ => rfl), rfl, ?_, ?_⟩, ?_⟩
  ·intro b off hp
   have hin : MemPlace.cell b off ∈ before := by rw [hps]; simpa using hp
   rw [hb.frozen (hlt _ hin)];exact hz b off hin
  ·intro ha
   have := hn ha;rw [hps] at this
   simpa using this
  ·intro p hp _
   rw [hps]
   simpa using hp

theorem trodAll_below (hl : laidOutB P = true) {W W' : World} (hb : Below W.heap.size W W') (sp : Nat → Bool) :
  ∀ {ts : List TypeId} {vs : List Value} {ds : List (DataW H)} {ps : List MemPlace}, (ts.all fun t => P.readableRec t && decide (t < P.types.size)) = true → DataW.TrodAll enc P W 0 (fun _ => true) true ts vs ds ps →
   (∀ x ∈ ps, x.block < W.heap.size) → (∀ x ∈ ps, sp x.block = true) → DataW.TrodAll enc P W' 0 sp true ts vs ds ps
 | [], [], [], _, _, h, _, _ => h
 | t :: ts, v :: vs, d :: ds, _, ht, ⟨p, q, h0, h1, rfl⟩, hlt, hsp => by
  simp only [List.all_cons, Bool.and_eq_true, decide_eq_true_eq] at ht
  exact ⟨p, q, WideElems.Trod_stays hl ht.1.1 ht.1.2 h0 (fun x hx => hb.same (hlt x (List.mem_append.2 (.inl hx)))) (fun x hx => hsp x (List.mem_append.2 (.inl hx))),
   trodAll_below hl hb sp (by simpa using ht.2) h1 (fun x hx => hlt x (List.mem_append.2 (.inr hx))) (fun x hx => hsp x (List.mem_append.2 (.inr hx))), rfl⟩
 | [], [], _ :: _, _, _, h, _, _ => h.elim
 | [], _ :: _, _, _, _, h, _, _ => h.elim
 | _ :: _, [], _, _, _, h, _, _ => h.elim
 | _ :: _, _ :: _, [], _, _, h, _, _ => h.elim

theorem law_post {f : Func} {s : ChangeSpec} {apart fresh handsOn again : Bool} {W W' : World} {args : Array Value} {ds gs : List (DataW H)} {before : List MemPlace} {tb : TypeId}
  (hl : laidOutB P = true) (hr : (f.params.toList.all fun t => P.readableRec t && decide (t < P.types.size)) = true) (hW : DataW.Whole enc P f.params.toList s.vars apart W args.toList ds gs before)
  (hv : s.vars = []) (hfn : s.fn H (ds ++ gs) = { results := [.lit (.bool true)], args := ds }) (ht : f.resultTypes = #[tb]) (hu : P.underlying tb = some .bool) (hb : Below W.heap.size W W') :
  s.post enc P f apart fresh handsOn again W args (.bool true) W' := by
 have hlt : ∀ p ∈ before, p.block < W.heap.size := fun p hp => hW.lt p hp;have hW2 := hW;obtain ⟨p, q, hA, hV, hpq, _, _⟩ := hW;have hV' := hV;rw [hv] at hV';obtain ⟨rfl, rfl⟩ := trodVars_none hV';have hpp : before = p := by rw [hpq, List.append_nil]
 refine post_of_below (pa := before) (pv := []) hW2 ?_ ?_ ?_ (by simp) hb ?_
 ·intro b sp hd
  rw [hfn, ht];exact trodAll_mk1 (shut_bool hu _)
 ·intro sp hsp
  rw [hfn];exact trodAll_below hl hb sp hr (by rw [hpp]; exact hA) hlt hsp
 ·intro sp hsp
  rw [hfn, hv]
  rfl
 ·intro j t r hj hrr
  rw [ht] at hj hrr;exact ok_one ht rfl (okWide_bool_mk hu _) j t r (by rw [ht]; exact hj) (by rw [ht]; exact hrr)
end
end
section
open Go.ChangeShapes Go.WideShapes Go.ChangeAt Go.WideMaps Go.WideElems Go.RowKit Go.Deep
theorem flatMap_get {X : Type} (cells : X → List Value) (size : Nat) (hlen : ∀ r, (cells r).length = size) : ∀ (L : List X) (j : Nat) (u : Value), (L.flatMap cells)[j]? = some u → ∃ i k r, j = i * size + k ∧ L[i]? = some r ∧ (cells r)[k]? = some u
 | [], j, u, h => by simp at h
 | x :: l, j, u, h => by
  rw [List.flatMap_cons, List.getElem?_append] at h
  split at h
  ·exact ⟨0, j, x, by omega, rfl, h⟩
  ·next hj =>
   rw [hlen] at h hj;obtain ⟨i, k, r, e, h1, h2⟩ := flatMap_get cells size hlen l _ u h;exact ⟨i + 1, k, r, by rw [Nat.add_mul]; omega, h1, h2⟩

section
variable {H : Type} {enc : TypeId × Value → H} {P : Program} {w : World} {base : Nat} {spare : Nat → Bool} {held : Bool}
theorem open_rows {X : Type} [Inhabited X] (cells : X → List Value) (size : Nat) (Fit : X → Prop) (hsize : 0 < size) (hlen : ∀ r, (cells r).length = size) {t e : TypeId} (ht : P.underlying t = some (.slice e)) (hC : P.cellsOf e = size)
  (hel : ∀ n cs' y, cs'.length = size → DataW.trod enc P w base spare held n e cs' = some y → ∃ r, cs' = cells r ∧ Fit r) {fuel : Nat} {v : Value} {x : DataW H × List MemPlace} (h : DataW.trod enc P w base spare held fuel t [v] = some x) :
  ∃ (a : Option Addr) (cap : Nat) (L : List X), v = .slice a L.length cap ∧ L.length ≤ cap ∧ cap ≤ maxLen ∧ (a = none → cap = 0) ∧ (∀ r ∈ L, Fit r) ∧
   (0 < L.length → ∃ b off, a = some ⟨b, off, none⟩ ∧ b < w.heap.size ∧ ∀ j u, (L.flatMap cells)[j]? = some u → w.cell? ⟨b, off + j, none⟩ = some u) := by
 rcases open_slice ht h with ⟨hcs, _⟩ | ⟨a, len, cap, m, n, D, Pl, hcs, _, hl, hm, hmm, _, hi⟩
 ·simp only [List.cons.injEq, and_true] at hcs
  subst hcs;exact ⟨none, 0, [], rfl, Nat.le_refl _, by unfold maxLen; omega, fun _ => rfl, (fun _ h => by cases h), fun h => absurd h (Nat.not_lt_zero _)⟩
 ·simp only [List.cons.injEq, and_true] at hcs
  subst hcs;have hlm : len ≤ m := by rw [hmm]; split <;> omega
  have hex : ∀ i, ∃ r : X, i < len → Fit r ∧ ∀ k u, (cells r)[k]? = some u → w.cell? (a.add (i * size + k)) = some u := fun i => by
   by_cases h : i < len
   ·obtain ⟨cs', hc, ht'⟩ := hi i (by omega)
    rw [hC] at hc;obtain ⟨_, hcl, hat⟩ := World.cells?_some hc;obtain ⟨r, e, hf⟩ := hel n cs' _ hcl ht';refine ⟨r, fun _ => ⟨hf, fun k u hu => ?_⟩⟩;rw [← e] at hu
    have hk : k < size := by
     have := (List.getElem?_eq_some_iff.1 hu).1;omega
    rw [← Go.Deep.add_add, hat k hk, hu]
   ·exact ⟨default, fun h' => absurd h' h⟩
  obtain ⟨f, hf⟩ := Classical.axiomOfChoice hex;refine ⟨some a, cap, (List.range len).map f, by simp, by simpa using hl, hm, (fun e => by cases e), ?_, ?_⟩
  ·intro r hr
   obtain ⟨i, hi', rfl⟩ := List.mem_map.1 hr;exact (hf i (by simpa using hi')).1
  ·intro hpos
   have hpos' : 0 < len := by simpa using hpos
   have hcell : ∀ i k u, i < len → (cells (f i))[k]? = some u → w.cell? (a.add (i * size + k)) = some u := fun i k u h hu => (hf i h).2 k u hu;have h0 : ∃ u, (cells (f 0))[0]? = some u := ⟨_, List.getElem?_eq_getElem (by rw [hlen]; exact hsize)⟩;obtain ⟨u0, hu0⟩ := h0;have hc0 := hcell 0 0 u0 hpos' hu0;obtain ⟨b, off, spot⟩ := a;have hspot : spot = none := by simpa [Addr.add] using World.cell?_spot hc0
   subst hspot;refine ⟨b, off, rfl, ?_, fun j u hj => ?_⟩
   ·rw [Go.WideShapes.add_plain] at hc0
    exact World.block_lt_of_cell? w _ hc0
   ·obtain ⟨i, k, r, e, h1, h2⟩ := flatMap_get cells size hlen _ j u hj
    rw [List.getElem?_map] at h1
    have hil : i < len := by
     rcases Nat.lt_or_ge i len with l | l
     ·exact l
     ·rw [List.getElem?_eq_none (by simpa using l)] at h1; cases h1
    rw [List.getElem?_range hil] at h1;obtain rfl : f i = r := by simpa using h1
    have := hcell i k u hil h2;rw [Go.WideShapes.add_plain] at this;rw [e];exact this
theorem elem_fields {e : TypeId} {fs : Array Field} {n : Nat} {cs' : List Value} {y : DataW H × List MemPlace} (he : P.underlying e = some (.struct fs)) (hone : oneCellFields P fs = true) (hl : cs'.length = fs.size) (h : DataW.trod enc P w base spare held n e cs' = some y) :
  ∃ m, ∀ (j : Nat) (f : Field), fs[j]? = some f → ∃ (v : Value) (z : DataW H × List MemPlace), cs'[j]? = some v ∧ DataW.trod enc P w base spare held m f.type [v] = some z := by
 obtain ⟨ys, n', hn', hy, hlen, hyl, hf⟩ := DataW.trod_struct he h;refine ⟨n', fun j f hj => ?_⟩;obtain ⟨ho, hk⟩ := hone_of hone j f hj;have hjl : j < fs.size := (Array.getElem?_eq_some_iff.1 hj).1;have hv : cs'[j]? = some (cs'[j]'(by omega)) := List.getElem?_eq_getElem (by omega);have h1 := hf j f hj;rw [ho, hk] at h1
 have hone' : (cs'.drop j).take 1 = [cs'[j]'(by omega)] := by
  rw [List.drop_eq_getElem_cons (by omega)]
  rfl
 rw [hone'] at h1;exact ⟨_, ys[j]'(by omega), hv, h1.trans (List.getElem?_eq_getElem (by omega))⟩
end
end
section
open Go.ChangeShapes Go.WideShapes Go.ChangeAt Go.WideMaps Go.WideElems Go.RowKit Go.Deep Go.Joins
theorem num_of_flat {n₀ : Nat} {w : World} {a : Option Addr} {L : List (Int)} (h : 0 < L.length → ∃ b off, a = some ⟨b, off, none⟩ ∧ b < n₀ ∧ ∀ j u, (nflat L)[j]? = some u → w.cell? ⟨b, off + j, none⟩ = some u) : Nums n₀ w a L := fun hl => by
 obtain ⟨b, off, e, hb, hc⟩ := h hl;refine ⟨b, off, e, hb, fun i hi => ?_⟩;have f0 := nflat_at L i hi;have c0 := hc _ _ f0
 try simp only [← Nat.add_assoc] at c0
 exact c0
theorem brick_of_flat {n₀ : Nat} {w : World} {a : Option Addr} {L : List (BrickR)} (h : 0 < L.length → ∃ b off, a = some ⟨b, off, none⟩ ∧ b < n₀ ∧ ∀ j u, (kflat L)[j]? = some u → w.cell? ⟨b, off + j, none⟩ = some u) : Bricks n₀ w a L := fun hl => by
 obtain ⟨b, off, e, hb, hc⟩ := h hl;refine ⟨b, off, e, hb, fun i hi => ?_⟩;obtain ⟨f0, f1, f2⟩ := kflat_at L i hi;have c0 := hc _ _ f0;have c1 := hc _ _ f1;have c2 := hc _ _ f2
 try simp only [← Nat.add_assoc] at c0 c1 c2
 exact ⟨c0, c1, c2⟩
instance : Inhabited BrickR := ⟨⟨⟨#[]⟩, 0, 0⟩⟩
section
variable {H : Type} {enc : TypeId × Value → H} {w : World} {base : Nat} {spare : Nat → Bool} {held : Bool}
theorem open_nums {fuel : Nat} {v : Value} {x : DataW H × List MemPlace} (h : DataW.trod enc Tryz.prog w base spare held fuel 50 [v] = some x) :
  ∃ (a : Option Addr) (cap : Nat) (L : List Int), v = .slice a L.length cap ∧ L.length ≤ cap ∧ cap ≤ maxLen ∧ (a = none → cap = 0) ∧ (∀ r ∈ L, (Lit.int .i64 r).wf = true) ∧ Nums w.heap.size w a L := by
 obtain ⟨a, cap, L, h1, h2, h3, h4, h5, h6⟩ := open_rows (P := Tryz.prog) (fun r : Int => [Value.int .i64 r]) 1 (fun r => (Lit.int .i64 r).wf = true) (by decide) (fun _ => rfl) Tryz.underlying50 (by kernel_rfl) (fun n cs' y hl ht => by
  obtain ⟨m, e, _, hw⟩ := DataW.trod_int Tryz.underlying3 ht;exact ⟨m, e, hw⟩) h
 exact ⟨a, cap, L, h1, h2, h3, h4, h5, num_of_flat h6⟩
theorem open_bricks {fuel : Nat} {v : Value} {x : DataW H × List MemPlace} (h : DataW.trod enc Tryz.prog w base spare held fuel 52 [v] = some x) :
  ∃ (a : Option Addr) (cap : Nat) (L : List BrickR), v = .slice a L.length cap ∧ L.length ≤ cap ∧ cap ≤ maxLen ∧ (a = none → cap = 0) ∧ Bricks w.heap.size w a L := by
 obtain ⟨a, cap, L, h1, h2, h3, h4, _, h6⟩ := open_rows (P := Tryz.prog) (fun r : BrickR => [.string r.name, .int .i64 r.weight, .int .i64 r.count]) 3 (fun _ => True) (by decide) (fun _ => rfl) Tryz.underlying52 (by kernel_rfl) (fun n cs' y hl ht => by
  obtain ⟨m, hf⟩ := elem_fields Tryz.underlying133 (by kernel_rfl) (by rw [hl]; rfl) ht;obtain ⟨v0, z0, c0, t0⟩ := hf 0 _ rfl;obtain ⟨v1, z1, c1, t1⟩ := hf 1 _ rfl;obtain ⟨v2, z2, c2, t2⟩ := hf 2 _ rfl;obtain ⟨n0, e0, _, _⟩ := DataW.trod_string Tryz.underlying9 t0;obtain ⟨n1, e1, _, w1⟩ := DataW.trod_int Tryz.underlying3 t1;obtain ⟨n2, e2, _, w2⟩ := DataW.trod_int Tryz.underlying3 t2;simp only [List.cons.injEq, and_true] at e0 e1 e2;subst e0 e1 e2
  match cs', hl with
  | [x0, x1, x2], _ =>
   simp only [List.getElem?_cons_zero, List.getElem?_cons_succ, Option.some.injEq] at c0 c1 c2;subst c0 c1 c2;exact ⟨⟨n0, n1, n2⟩, rfl, trivial⟩) h
 exact ⟨a, cap, L, h1, h2, h3, h4, brick_of_flat h6⟩
end
section
variable {H : Type} {enc : TypeId × Value → H} {W : World} {base : Nat}
end
theorem item_of_flat {n₀ : Nat} {w : World} {a : Option Addr} {L : List ItemR} (h : 0 < L.length → ∃ b off, a = some ⟨b, off, none⟩ ∧ b < n₀ ∧ ∀ j u, (tflat L)[j]? = some u → w.cell? ⟨b, off + j, none⟩ = some u) : Items n₀ w a L := fun hl => by
 obtain ⟨b, off, e, hb, hc⟩ := h hl;refine ⟨b, off, e, hb, fun i hi => ?_⟩;obtain ⟨f0, f1, f2, f3, f4, f5, f6⟩ := tflat_at L i hi;have c0 := hc _ _ f0;have c1 := hc _ _ f1;have c2 := hc _ _ f2;have c3 := hc _ _ f3;have c4 := hc _ _ f4;have c5 := hc _ _ f5;have c6 := hc _ _ f6
 try simp only [← Nat.add_assoc] at c0 c1 c2 c3 c4 c5 c6
 exact ⟨c0, c1, c2, c3, c4, c5, c6⟩
instance : Inhabited ItemR := ⟨⟨⟨#[]⟩, 0, 0, 0, 0, 0, 0⟩⟩
section
variable {H : Type} {enc : TypeId × Value → H} {w : World} {base : Nat} {spare : Nat → Bool} {held : Bool}
theorem open_items {fuel : Nat} {v : Value} {x : DataW H × List MemPlace} (h : DataW.trod enc Tryz.prog w base spare held fuel 51 [v] = some x) :
  ∃ (a : Option Addr) (cap : Nat) (L : List ItemR), v = .slice a L.length cap ∧ L.length ≤ cap ∧ cap ≤ maxLen ∧ (a = none → cap = 0) ∧ Items w.heap.size w a L := by
 obtain ⟨a, cap, L, h1, h2, h3, h4, _, h6⟩ := open_rows (P := Tryz.prog) (fun r : ItemR => [.string r.name, .int .i64 r.pos, .int .i64 r.width, .int .i64 r.weight, .int .i64 r.hang, .int .i64 r.front, .int .i64 r.back]) 7 (fun _ => True) (by decide) (fun _ => rfl) Tryz.underlying51 (by kernel_rfl) (fun n cs' y hl ht => by
  obtain ⟨m, hf⟩ := elem_fields Tryz.underlying131 (by kernel_rfl) (by rw [hl]; rfl) ht;obtain ⟨v0, z0, c0, t0⟩ := hf 0 _ rfl;obtain ⟨v1, z1, c1, t1⟩ := hf 1 _ rfl;obtain ⟨v2, z2, c2, t2⟩ := hf 2 _ rfl;obtain ⟨v3, z3, c3, t3⟩ := hf 3 _ rfl;obtain ⟨v4, z4, c4, t4⟩ := hf 4 _ rfl;obtain ⟨v5, z5, c5, t5⟩ := hf 5 _ rfl;obtain ⟨v6, z6, c6, t6⟩ := hf 6 _ rfl;obtain ⟨n0, e0, _, _⟩ := DataW.trod_string Tryz.underlying9 t0;obtain ⟨n1, e1, _, w1⟩ := DataW.trod_int Tryz.underlying3 t1;obtain ⟨n2, e2, _, w2⟩ := DataW.trod_int Tryz.underlying3 t2;obtain ⟨n3, e3, _, w3⟩ := DataW.trod_int Tryz.underlying3 t3;obtain ⟨n4, e4, _, w4⟩ := DataW.trod_int Tryz.underlying3 t4;obtain ⟨n5, e5, _, w5⟩ := DataW.trod_int Tryz.underlying3 t5;obtain ⟨n6, e6, _, w6⟩ := DataW.trod_int Tryz.underlying3 t6;simp only [List.cons.injEq, and_true] at e0 e1 e2 e3 e4 e5 e6;subst e0 e1 e2 e3 e4 e5 e6
  match cs', hl with
  | [x0, x1, x2, x3, x4, x5, x6], _ =>
   simp only [List.getElem?_cons_zero, List.getElem?_cons_succ, Option.some.injEq] at c0 c1 c2 c3 c4 c5 c6;subst c0 c1 c2 c3 c4 c5 c6;exact ⟨⟨n0, n1, n2, n3, n4, n5, n6⟩, rfl, trivial⟩) h
 exact ⟨a, cap, L, h1, h2, h3, h4, item_of_flat h6⟩
end
section
variable {H : Type} {enc : TypeId × Value → H} {W : World} {base : Nat}
end
instance : Inhabited RoofR := ⟨⟨⟨#[]⟩, 0, 0, 0⟩⟩
instance : Inhabited SetR := ⟨⟨⟨#[]⟩, 0, 0, 0, 0, none, [], 0, 0, 0, 0, 0, 0, none, [], 0, none, [], 0⟩⟩
theorem roof_of_flat {n₀ : Nat} {w : World} {a : Option Addr} {L : List RoofR} (h : 0 < L.length → ∃ b off, a = some ⟨b, off, none⟩ ∧ b < n₀ ∧ ∀ j u, (rflat L)[j]? = some u → w.cell? ⟨b, off + j, none⟩ = some u) : Roofs n₀ w a L := fun hl => by
 obtain ⟨b, off, e, hb, hc⟩ := h hl;refine ⟨b, off, e, hb, fun i hi => ?_⟩;obtain ⟨f0, f1, f2, f3⟩ := rflat_at L i hi;have c0 := hc _ _ f0;have c1 := hc _ _ f1;have c2 := hc _ _ f2;have c3 := hc _ _ f3
 try simp only [← Nat.add_assoc] at c0 c1 c2 c3
 exact ⟨c0, c1, c2, c3⟩
theorem set_of_flat {n₀ : Nat} {w : World} {a : Option Addr} {L : List SetR} (h : 0 < L.length → ∃ b off, a = some ⟨b, off, none⟩ ∧ b < n₀ ∧ ∀ j u, (hflat L)[j]? = some u → w.cell? ⟨b, off + j, none⟩ = some u) : SetRows n₀ w a L := fun hl => by
 obtain ⟨b, off, e, hb, hc⟩ := h hl;refine ⟨b, off, e, hb, fun i hi => ?_⟩;obtain ⟨f0, f1, f2, f3, f4, f5, f6, f7, f8, f9, f10, f11, f12⟩ := hflat_at L i hi;have c0 := hc _ _ f0;have c1 := hc _ _ f1;have c2 := hc _ _ f2;have c3 := hc _ _ f3;have c4 := hc _ _ f4;have c5 := hc _ _ f5;have c6 := hc _ _ f6;have c7 := hc _ _ f7;have c8 := hc _ _ f8;have c9 := hc _ _ f9;have c10 := hc _ _ f10;have c11 := hc _ _ f11;have c12 := hc _ _ f12
 try simp only [← Nat.add_assoc] at c0 c1 c2 c3 c4 c5 c6 c7 c8 c9 c10 c11 c12
 exact ⟨c0, c1, c2, c3, c4, c5, c6, c7, c8, c9, c10, c11, c12⟩
section
variable {H : Type} {enc : TypeId × Value → H} {w : World} {base : Nat} {spare : Nat → Bool} {held : Bool}
theorem open_roofs {fuel : Nat} {v : Value} {x : DataW H × List MemPlace} (h : DataW.trod enc Tryz.prog w base spare held fuel 23 [v] = some x) :
  ∃ (a : Option Addr) (cap : Nat) (L : List RoofR), v = .slice a L.length cap ∧ L.length ≤ cap ∧ cap ≤ maxLen ∧ (a = none → cap = 0) ∧ Roofs w.heap.size w a L := by
 obtain ⟨a, cap, L, h1, h2, h3, h4, _, h6⟩ := open_rows (P := Tryz.prog) (fun r : RoofR => [.string r.name, .int .i64 r.lo, .int .i64 r.hi, .int .i64 r.most]) 4 (fun _ => True) (by decide) (fun _ => rfl) Tryz.underlying23 (by kernel_rfl) (fun n cs' y hl ht => by
  obtain ⟨m, hf⟩ := elem_fields Tryz.underlying93 (by kernel_rfl) (by rw [hl]; rfl) ht;obtain ⟨v0, z0, c0, t0⟩ := hf 0 _ rfl;obtain ⟨v1, z1, c1, t1⟩ := hf 1 _ rfl;obtain ⟨v2, z2, c2, t2⟩ := hf 2 _ rfl;obtain ⟨v3, z3, c3, t3⟩ := hf 3 _ rfl;obtain ⟨n0, e0, _, _⟩ := DataW.trod_string Tryz.underlying9 t0;obtain ⟨n1, e1, _, w1⟩ := DataW.trod_int Tryz.underlying3 t1;obtain ⟨n2, e2, _, w2⟩ := DataW.trod_int Tryz.underlying3 t2;obtain ⟨n3, e3, _, w3⟩ := DataW.trod_int Tryz.underlying3 t3;simp only [List.cons.injEq, and_true] at e0 e1 e2 e3;subst e0 e1 e2 e3
  match cs', hl with
  | [x0, x1, x2, x3], _ =>
   simp only [List.getElem?_cons_zero, List.getElem?_cons_succ, Option.some.injEq] at c0 c1 c2 c3;subst c0 c1 c2 c3;exact ⟨⟨n0, n1, n2, n3⟩, rfl, trivial⟩) h
 exact ⟨a, cap, L, h1, h2, h3, h4, roof_of_flat h6⟩
theorem open_sets {fuel : Nat} {v : Value} {x : DataW H × List MemPlace} (h : DataW.trod enc Tryz.prog w base spare held fuel 22 [v] = some x) :
  ∃ (a : Option Addr) (cap : Nat) (L : List SetR), v = .slice a L.length cap ∧ L.length ≤ cap ∧ cap ≤ maxLen ∧ (a = none → cap = 0) ∧ (∀ r ∈ L, SetIn0 w r) ∧ SetRows w.heap.size w a L := by
 obtain ⟨a, cap, L, h1, h2, h3, h4, h5, h6⟩ := open_rows (P := Tryz.prog) (fun r : SetR => [.string r.name, .int .i64 r.depth, .int .i64 r.low, .int .i64 r.high, .int .i64 r.length, .slice r.la r.lines.length r.lc, .int .i64 r.pipe, .int .i64 r.arbor, .int .i64 r.purchase, .int .i64 r.most, .int .i64 r.brake, .slice r.ia r.items.length r.ic, .slice r.ba r.bricks.length r.bc]) 13 (fun r => SetIn0 w r) (by decide) (fun _ => rfl) Tryz.underlying22 (by kernel_rfl) (fun n cs' y hl ht => by
  obtain ⟨m, hf⟩ := elem_fields Tryz.underlying54 (by kernel_rfl) (by rw [hl]; rfl) ht;obtain ⟨v0, z0, c0, t0⟩ := hf 0 _ rfl;obtain ⟨v1, z1, c1, t1⟩ := hf 1 _ rfl;obtain ⟨v2, z2, c2, t2⟩ := hf 2 _ rfl;obtain ⟨v3, z3, c3, t3⟩ := hf 3 _ rfl;obtain ⟨v4, z4, c4, t4⟩ := hf 4 _ rfl;obtain ⟨v5, z5, c5, t5⟩ := hf 5 _ rfl;obtain ⟨v6, z6, c6, t6⟩ := hf 6 _ rfl;obtain ⟨v7, z7, c7, t7⟩ := hf 7 _ rfl;obtain ⟨v8, z8, c8, t8⟩ := hf 8 _ rfl;obtain ⟨v9, z9, c9, t9⟩ := hf 9 _ rfl;obtain ⟨v10, z10, c10, t10⟩ := hf 10 _ rfl;obtain ⟨v11, z11, c11, t11⟩ := hf 11 _ rfl;obtain ⟨v12, z12, c12, t12⟩ := hf 12 _ rfl;obtain ⟨n0, e0, _, _⟩ := DataW.trod_string Tryz.underlying9 t0;obtain ⟨n1, e1, _, w1⟩ := DataW.trod_int Tryz.underlying3 t1;obtain ⟨n2, e2, _, w2⟩ := DataW.trod_int Tryz.underlying3 t2;obtain ⟨n3, e3, _, w3⟩ := DataW.trod_int Tryz.underlying3 t3;obtain ⟨n4, e4, _, w4⟩ := DataW.trod_int Tryz.underlying3 t4;obtain ⟨n6, e6, _, w6⟩ := DataW.trod_int Tryz.underlying3 t6;obtain ⟨n7, e7, _, w7⟩ := DataW.trod_int Tryz.underlying3 t7;obtain ⟨n8, e8, _, w8⟩ := DataW.trod_int Tryz.underlying3 t8;obtain ⟨n9, e9, _, w9⟩ := DataW.trod_int Tryz.underlying3 t9;obtain ⟨n10, e10, _, w10⟩ := DataW.trod_int Tryz.underlying3 t10;obtain ⟨la, lc, L, rfl, l1, l2, l3, _, l4⟩ := open_nums t5;obtain ⟨ia, ic, I, rfl, i1, i2, i3, i4⟩ := open_items t11;obtain ⟨ba, bc, B, rfl, b1, b2, b3, b4⟩ := open_bricks t12;simp only [List.cons.injEq, and_true] at e0 e1 e2 e3 e4 e6 e7 e8 e9 e10;subst e0 e1 e2 e3 e4 e6 e7 e8 e9 e10
  match cs', hl with
  | [x0, x1, x2, x3, x4, x5, x6, x7, x8, x9, x10, x11, x12], _ =>
   simp only [List.getElem?_cons_zero, List.getElem?_cons_succ, Option.some.injEq] at c0 c1 c2 c3 c4 c5 c6 c7 c8 c9 c10 c11 c12;subst c0 c1 c2 c3 c4 c5 c6 c7 c8 c9 c10 c11 c12;exact ⟨⟨n0, n1, n2, n3, n4, la, L, lc, n6, n7, n8, n9, n10, ia, I, ic, ba, B, bc⟩, rfl, ⟨l4, i4, b4, l1, i1, b1, l3, i3, b3⟩⟩) h
 exact ⟨a, cap, L, h1, h2, h3, h4, h5, set_of_flat h6⟩
end
section
variable {H : Type} {enc : TypeId × Value → H} {W : World} {base : Nat}
theorem open_house {v : Value} {d : DataW H} {p : List MemPlace} (hv : Value.okWide Tryz.prog W .any base 25 v) (h : DataW.Trod enc Tryz.prog W 0 (fun _ => true) true 25 v d p) :
  ∃ r : HouseR, v = .agg #[.string r.name, .int .i64 r.height, .slice r.sa r.sets.length r.sc, .slice r.ra r.roofs.length r.rc] ∧ HouseIn0 W r := by
 obtain ⟨cs, rfl, hsz⟩ := okWide_struct Tryz.underlying25 hv;obtain ⟨l⟩ := cs
 match l, hsz.trans (show Tryz.prog.cellsOf 25 = 4 by kernel_rfl) with
 | [x0, x1, x2, x3], _ =>
  obtain ⟨fuel, hf0⟩ := h;obtain ⟨m, hf⟩ := elem_fields (cs' := [x0, x1, x2, x3]) Tryz.underlying25 (by kernel_rfl) rfl (by simpa [Value.cells] using hf0);obtain ⟨v0, z0, c0, t0⟩ := hf 0 _ rfl;obtain ⟨v1, z1, c1, t1⟩ := hf 1 _ rfl;obtain ⟨v2, z2, c2, t2⟩ := hf 2 _ rfl;obtain ⟨v3, z3, c3, t3⟩ := hf 3 _ rfl;simp only [List.getElem?_cons_zero, List.getElem?_cons_succ, Option.some.injEq] at c0 c1 c2 c3;subst c0 c1 c2 c3;obtain ⟨n0, e0, _, _⟩ := DataW.trod_string Tryz.underlying9 t0;obtain ⟨n1, e1, _, w1⟩ := DataW.trod_int Tryz.underlying3 t1;obtain ⟨sa, sc, S, rfl, s1, s2, s3, s4, s5⟩ := open_sets t2;obtain ⟨ra, rc, R, rfl, r1, r2, r3, r4⟩ := open_roofs t3;simp only [List.cons.injEq, and_true] at e0 e1;subst e0 e1;exact ⟨⟨n0, n1, sa, S, sc, ra, R, rc⟩, rfl, ⟨s5, r4, fun i hi => s4 _ (by rw [hg_eq S i hi]; exact List.getElem_mem hi), s1, r1, s3, r3⟩⟩
end
end
end Go.Proofs.YtbgkgahmicepdaaGreat
