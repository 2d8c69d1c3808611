/-
  THE WALK of timeline.At.
-/
import Derived.Test.YtebofaenlhhkaaaGreatF30
namespace Go.Proofs.YtebofaenlhhkaaaGreat
set_option maxRecDepth 100000
set_option maxHeartbeats 80000000
section
open Go.RowKit Go.Shelf
attribute [local go_sem] Oper.semAt_some
noncomputable def setAt (h : HouseR) (C : List CueR) (S : List Int) (ms : Int) (k : Nat) : Int × Int × Int := if (pathP h C S k).2 = 0 then atP (pathP h C S k).1 (lowN ms 1000, lowD ms 1000) else (0, 0, (pathP h C S k).2)
noncomputable def atTo (h : HouseR) (C : List CueR) (S : List Int) (ms : Int) : Nat → List (Int × Int) × Int
 | 0 => ([], 0)
 | k + 1 => if (atTo h C S ms k).2 = 0 then (if (setAt h C S ms k).2.2 = 0 then ((atTo h C S ms k).1 ++ [((setAt h C S ms k).1, (setAt h C S ms k).2.1)], 0) else ([], (setAt h C S ms k).2.2)) else atTo h C S ms k
theorem atTo_err {h : HouseR} {C : List CueR} {S : List Int} {ms : Int} {k : Nat} (e : (atTo h C S ms k).2 ≠ 0) : ∀ n, k ≤ n → atTo h C S ms n = atTo h C S ms k
 | 0, hn => by
  obtain rfl : k = 0 := by omega
  rfl
 | n + 1, hn => by
  rcases Nat.lt_or_ge n k with l | l
  ·obtain rfl : k = n + 1 := by omega
   rfl
  ·have ih := atTo_err e n l
   rw [atTo, ih, if_neg e]
theorem atTo_next {h : HouseR} {C : List CueR} {S : List Int} {ms : Int} {k : Nat} (a : (atTo h C S ms k).2 = 0) (b : (setAt h C S ms k).2.2 = 0) : atTo h C S ms (k + 1) = ((atTo h C S ms k).1 ++ [((setAt h C S ms k).1, (setAt h C S ms k).2.1)], 0) := by rw [atTo, if_pos a, if_pos b]
theorem atTo_fail {h : HouseR} {C : List CueR} {S : List Int} {ms : Int} {k : Nat} (a : (atTo h C S ms k).2 = 0) (b : (setAt h C S ms k).2.2 ≠ 0) : atTo h C S ms (k + 1) = ([], (setAt h C S ms k).2.2) := by rw [atTo, if_pos a, if_neg b]
theorem atTo_len {h : HouseR} {C : List CueR} {S : List Int} {ms : Int} : ∀ k, (atTo h C S ms k).2 = 0 → (atTo h C S ms k).1.length = k
 | 0, _ => rfl
 | k + 1, e => by
  by_cases a : (atTo h C S ms k).2 = 0
  ·by_cases b : (setAt h C S ms k).2.2 = 0
   ·rw [atTo_next a b, List.length_append, atTo_len k a]; rfl
   ·rw [atTo_fail a b] at e; exact absurd e b
  ·rw [atTo_err a (k + 1) (Nat.le_succ k)] at e; exact absurd e a
noncomputable def atE (h : HouseR) (s : SheetR) (G : List Int) (ms : Int) : List (Int × Int) × Int :=
 if planE h s G = 0 then (if ms < 0 ∨ 1099511627776 < ms then ([], 2) else if ordrB s.cues (planS h s G) (planN h s) = true then atTo h s.cues (planS h s G) ms h.sets.length else ([], 13)) else ([], planE h s G)
def AtV (w w' : World) (v : Value) (r : List (Int × Int) × Int) : Prop := (r.2 = 0 → w'.ownsRow w.heap.size 49 2 v r.1.length (frflat r.1)) ∧ (r.2 ≠ 0 → v = .slice none 0 0)
theorem boxHS2 {w : World} {h : HouseR} {s : SheetR} {ga : Option Addr} {G : List Int} (hh : HouseIn w h) (hs : SheetIn w s) (hG : Nums w.heap.size w ga G) :
  ∃ W0, (LTw w h s) = W0 ∧ Hid (∀ w', Below W0.heap.size W0 w' → HouseAt w' w.heap.size h ∧ SheetAt w' (w.heap.size + 1) s ∧ HouseIn w' h ∧ SheetIn w' s ∧ Nums w'.heap.size w' ga G ∧ Below w.heap.size w w') := by
 have hb : Below w.heap.size w (LTw w h s) := (below_new w _).alloc (by simp) _;have hH := (HouseAt.new w h 25).carry (below_new _ (LSh s));have hS' := sheetAt_new (w.alloc (LHo h)) s;rw [show (w.alloc (LHo h)).heap.size = w.heap.size + 1 by simp] at hS';refine ⟨_, rfl, lh fun w' z => ⟨hH.carry z, hS'.carry z, (hh.grow hb).grow z, (hs.grow hb).grow z, (hG.grow hb).grow z, hb.trans (z.mono hb.size)⟩⟩
theorem tAt_any (h : HouseR) (s : SheetR) (ga : Option Addr) (G : List Int) (gc : Nat) (ms : Int) (w : World) (hh : HouseIn w h) (hs : SheetIn w s) (hG : Nums w.heap.size w ga G) (hgl : G.length ≤ 1000) (hm : -4611686018427387904 ≤ ms ∧ ms ≤ 4611686018427387904)
  (hC : ∀ k, k < h.sets.length → planE h s G = 0 → ordrB s.cues (planS h s G) (planN h s) = true → (pathP h s.cues (planS h s G) k).2 = 0 → CurveOK (pathP h s.cues (planS h s G) k).1) :
  Calls Tryz.prog 15 #[.agg #[.string h.name, .int .i64 h.height, .slice h.sa h.sets.length h.sc, .slice h.ra h.roofs.length h.rc], .agg #[.slice s.ca s.cues.length s.cc, .slice s.pa s.pairs.length s.pc], .slice ga G.length gc, .int .i64 ms] w fun e w' => Hid (∃ v, e = .returned (.tuple #[v, .int .i64 (atE h s G ms).2]) ∧ AtV w w' v (atE h s G ms)) ∧ Below w.heap.size w w' := by
 have hsl := hh.slen;have hcap := hh.scap;obtain ⟨m0, m1⟩ := hm;have HCV := lh hC;obtain ⟨W0, hW0, HX⟩ := boxHS2 hh hs hG;clear hh hs hG hC;obtain ⟨E, hE⟩ := nm (planE h s G)
 by_cases hz : E = 0
 case neg =>
  have HE := lh hE;have HR : Hid (atE h s G ms = ([], E)) := lh (by unfold atE; rw [hE, if_neg hz]);have HZ := lh hz;have g0 : (E != 0) = true := bne_iff_ne.2 hz;clear hz hE;have HMD := lh (made_any h s ga G gc _ (HX.out _ br).2.2.1 (HX.out _ br).2.2.2.1 (HX.out _ br).2.2.2.2.1 hgl)
  go_enter Tryz.func15, Tryz.ntmps15
  go_upto_region 1 with (fail)
  try simp only [hW0]
  clear hW0;obtain ⟨⟨a0, a1, a2, a3⟩, ⟨s0, s1⟩, -, -, -, -⟩ := HX.out _ br
  go_wp2_with (go_at_call 44; (with_reducible refine HMD.out.mono ?_); rintro e w1 ⟨hx1, hb1⟩; obtain ⟨ta, tn, tc, sa, sn, sc, na, nn, nc, rfl, hp1⟩ := hx1.out; clear hx1 hp1; rw [HE.out])
  go_ret2
  exact ⟨lh ⟨_, by first | rfl | (rw [HR.out]; rfl) | rw [HR.out], by rw [HR.out]; exact ⟨fun e => absurd e HZ.out, fun _ => rfl⟩⟩, (HX.out _ hb1).2.2.2.2.2.alloc (by have := (HX.out _ hb1).2.2.2.2.2.size; omega) _⟩
 case pos =>
  subst hz;obtain ⟨hok, hpo⟩ := plan_sheet hE;have HOK := lh hok;have HPO := lh hpo;have HE := lh hE;have HMD := lh (made_more h s ga G gc _ (HX.out _ br).2.2.1 (HX.out _ br).2.2.2.1 (HX.out _ br).2.2.2.2.1 hgl hE);clear hok hpo hE
  go_enter Tryz.func15, Tryz.ntmps15
  go_upto_region 1 with (fail)
  try simp only [hW0]
  clear hW0;obtain ⟨⟨a0, a1, a2, a3⟩, ⟨s0, s1⟩, -, -, -, -⟩ := HX.out _ br
  go_upto_region 4 with (go_at_call 44; (with_reducible refine HMD.out.mono ?_); rintro e w1 ⟨hx1, hb1⟩; obtain ⟨ta, tc, sa, sc, na, nc, rfl, hp1⟩ := hx1.out; have HP1 := lh hp1; clear hx1 hp1)
  obtain ⟨hS1, hN1, hT1⟩ := HP1.out;have hbx := below_new w1 (.cells #[.slice ta (s.cues.length + 1) tc, .slice sa s.cues.length sc, .slice na s.cues.length nc] 109);have hPC := PC.put w1 (.slice ta (s.cues.length + 1) tc) (.slice sa s.cues.length sc) (.slice na s.cues.length nc) 109;have hsz := hb1.size;have HB2 : Hid (Below W0.heap.size W0 (w1.alloc (.cells #[.slice ta (s.cues.length + 1) tc, .slice sa s.cues.length sc, .slice na s.cues.length nc] 109))) := lh (hb1.alloc hsz _);obtain ⟨B8, hB8⟩ := nm (w1.heap.size);have HPS : Hid (Nums (w1.alloc (.cells #[.slice ta (s.cues.length + 1) tc, .slice sa s.cues.length sc, .slice na s.cues.length nc] 109)).heap.size (w1.alloc (.cells #[.slice ta (s.cues.length + 1) tc, .slice sa s.cues.length sc, .slice na s.cues.length nc] 109)) sa (planS h s G) ∧ Nums (w1.alloc (.cells #[.slice ta (s.cues.length + 1) tc, .slice sa s.cues.length sc, .slice na s.cues.length nc] 109)).heap.size (w1.alloc (.cells #[.slice ta (s.cues.length + 1) tc, .slice sa s.cues.length sc, .slice na s.cues.length nc] 109)) na (planN h s) ∧ (0 < h.sets.length → ∃ P, TrimsIn (w1.alloc (.cells #[.slice ta (s.cues.length + 1) tc, .slice sa s.cues.length sc, .slice na s.cues.length nc] 109)) ta h s.cues P)) := lh ⟨hS1.grow hbx, hN1.grow hbx, fun q => by obtain ⟨P, t⟩ := hT1 q; exact ⟨P, t.grow hbx⟩⟩;have HPC := lh hPC;clear hS1 hN1 hT1 hbx hPC HP1 HMD hsz hb1 a0 a1 a2 a3 s0 s1;obtain ⟨W2, hW2⟩ := nm (w1.alloc (.cells #[.slice ta (s.cues.length + 1) tc, .slice sa s.cues.length sc, .slice na s.cues.length nc] 109));rw [hW2] at HB2 HPS HPC;simp only [hW2];rw [hB8] at HPC;simp only [hB8];clear hW2 hB8
  by_cases hr : ms < 0 ∨ 1099511627776 < ms
  ·have HR : Hid (atE h s G ms = ([], 2)) := lh (by unfold atE; rw [HE.out, if_pos rfl, if_pos hr])
   have hw2 := (HX.out _ HB2.out).2.2.2.2.2
   by_cases hl : ms < 0
   ·go_wp2_with fail
    go_ret2
    exact ⟨lh ⟨_, by first | rfl | (rw [HR.out]; rfl) | rw [HR.out], by rw [HR.out]; exact ⟨fun e => absurd e (by decide), fun _ => rfl⟩⟩, hw2⟩
   ·have hl2 : 1099511627776 < ms := by omega
    go_wp2_with fail
    go_ret2
    exact ⟨lh ⟨_, by first | rfl | (rw [HR.out]; rfl) | rw [HR.out], by rw [HR.out]; exact ⟨fun e => absurd e (by decide), fun _ => rfl⟩⟩, hw2⟩
  have l0 : ¬ ms < 0 := fun e => hr (.inl e);have l1 : ¬ 1099511627776 < ms := fun e => hr (.inr e);have HL : Hid (¬ (ms < 0 ∨ 1099511627776 < ms)) := lh hr;clear hr
  go_upto_region 6 with (fail)
  obtain ⟨⟨a0, a1, a2, a3⟩, ⟨s0, s1⟩, hin, hsi, -, -⟩ := HX.out _ HB2.out;obtain ⟨p0, p1, p2, -, -, -, -⟩ := HPC.out;have HTO := lh (tordered_any s ta (s.cues.length + 1) tc sa na (planS h s G) (planN h s) sc nc W2 hsi HPS.out.1 HPS.out.2.1 HPO.out.lenS HPO.out.lenN (fun i hi => by have := HPO.out.starts i hi; omega) (fun i hi => by have := HPO.out.lens i hi; omega));rw [HPO.out.lenS, HPO.out.lenN] at HTO;obtain ⟨o, ho⟩ := nm (ordrB s.cues (planS h s G) (planN h s));rw [ho] at HTO;have HO := lh ho;clear hin hsi ho
  cases o
  case false =>
   have HR : Hid (atE h s G ms = ([], 13)) := lh (by unfold atE; rw [HE.out, if_pos rfl, if_neg HL.out, HO.out]; rfl)
   go_wp2_with (go_at_call 47; (with_reducible refine HTO.out.mono ?_); rintro e w4 ⟨rfl, hb4⟩)
   go_ret2
   exact ⟨lh ⟨_, by first | rfl | (rw [HR.out]; rfl) | rw [HR.out], by rw [HR.out]; exact ⟨fun e => absurd e (by decide), fun _ => rfl⟩⟩, (HX.out _ (HB2.out.trans (hb4.mono HB2.out.size))).2.2.2.2.2⟩
  case true =>
  have HR : Hid (atE h s G ms = atTo h s.cues (planS h s G) ms h.sets.length) := lh (by unfold atE; rw [HE.out, if_pos rfl, if_neg HL.out, if_pos HO.out]);have HMK := lh (fun w' => tsec_any ms (by omega) (by omega) w');obtain ⟨N1, hN1⟩ := nm (lowN ms 1000);obtain ⟨D1, hD1⟩ := nm (lowD ms 1000);rw [hN1, hD1] at HMK;have HND : Hid (lowN ms 1000 = N1 ∧ lowD ms 1000 = D1) := lh ⟨hN1, hD1⟩;clear hN1 hD1
  go_upto_region 12 with (first | (go_at_call 47; (with_reducible refine HTO.out.mono ?_); rintro e w3 ⟨rfl, hb3⟩) | (go_at_call 53; (with_reducible refine (HMK.out _).mono ?_); rintro e w4 ⟨rfl, hb4⟩))
  have hbw := hb3.trans (hb4.mono hb3.size);have hf4 := FI.put w4 N1 D1 49;have hb5 := hbw.alloc hbw.size (.cells #[.int .i64 N1, .int .i64 D1] 49);obtain ⟨Bf, hBf⟩ := nm (w4.heap.size);obtain ⟨W5, hW5⟩ := nm (w4.alloc (.cells #[.int .i64 N1, .int .i64 D1] 49));rw [hW5] at hb5 hf4;simp only [hW5];rw [hBf] at hf4;simp only [hBf]
  have HX5 : Hid (∀ w', Below W5.heap.size W5 w' → Below W0.heap.size W0 w' ∧ Below W2.heap.size W2 w') := lh fun w' z => by
   have y := hb5.trans (z.mono hb5.size);exact ⟨HB2.out.trans (y.mono HB2.out.size), y⟩
  have HF5 : Hid (∀ w', Below W5.heap.size W5 w' → w'.cell? ⟨Bf, 0, none⟩ = some (.int .i64 N1) ∧ w'.cell? ⟨Bf, 1, none⟩ = some (.int .i64 D1)) := lh fun w' z => ⟨(hf4.carry z).1, (hf4.carry z).2.1⟩
  have HPT : Hid (∀ w' k, Below W5.heap.size W5 w' → k < h.sets.length → Calls Tryz.prog 48 #[.agg #[.slice ta (s.cues.length + 1) tc, .slice sa s.cues.length sc, .slice na s.cues.length nc], .agg #[.string h.name, .int .i64 h.height, .slice h.sa h.sets.length h.sc, .slice h.ra h.roofs.length h.rc], .agg #[.slice s.ca s.cues.length s.cc, .slice s.pa s.pairs.length s.pc], .int .i64 (k : Nat)] w' fun e w2 => Hid (∃ v, e = .returned (.tuple #[v, .int .i64 (pathP h s.cues (planS h s G) k).2]) ∧ PathV w' w2 v (pathP h s.cues (planS h s G) k)) ∧ Below w'.heap.size w' w2) := lh fun w' k z hk => by
   obtain ⟨y0, y2⟩ := HX5.out w' z;obtain ⟨P, ht⟩ := HPS.out.2.2 (by omega);have := tpath_any h s ta P tc sa na (planS h s G) (planN h s) sc nc k w' ⟨(HX.out _ y0).2.2.1, (HX.out _ y0).2.2.2.1, ht.grow y2, HPS.out.1.grow y2⟩ HPO.out.lenS HOK.out hk (fun i hi => by have := HPO.out.starts i hi; omega)
   rwa [HPO.out.lenS, HPO.out.lenN, ht.rows.len] at this
  have HWB : Hid (∀ w', Below W5.heap.size W5 w' → HouseAt w' w.heap.size h ∧ SheetAt w' (w.heap.size + 1) s ∧ Below w.heap.size w w' ∧ PC w' B8 (.slice ta (s.cues.length + 1) tc) (.slice sa s.cues.length sc) (.slice na s.cues.length nc)) := lh fun w' z => by
   obtain ⟨y0, y2⟩ := HX5.out w' z;obtain ⟨x1, x2, -, -, -, x6⟩ := HX.out _ y0;exact ⟨x1, x2, x6, HPC.out.carry y2⟩
  clear hBf hW5 hf4 hb5 hbw hb3 hb4 a0 a1 a2 a3 s0 s1 p0 p1 p2 HTO HMK;obtain ⟨⟨a0, a1, a2, a3⟩, -, -, -⟩ := HWB.out _ br
  go_upto_region 13 with (fail)
  clear a0 a1 a2 a3
  go_loopw [13, 52] (fun v iv wr => ∃ k : Nat, iv = .int .i64 k ∧ k ≤ h.sets.length ∧ Below W5.heap.size W5 wr ∧ Hid ((atTo h s.cues (planS h s G) ms k).2 = 0 ∧ wr.ownsRow W5.heap.size 49 2 v k (frflat (atTo h s.cues (planS h s G) ms k).1))) (fun _ iv _ => h.sets.length - (intOf iv).toNat)
  case atStart => exact ⟨0, rfl, Nat.zero_le _, br, lh ⟨rfl, World.ownsRow_nil _ _ _ _⟩⟩
  case round =>
   obtain ⟨k, rfl, hk, hB, HO2⟩ := hrel;obtain ⟨wk, rfl⟩ : ∃ wo : World, wo = wr := ⟨_, rfl⟩;have hws : w.heap.size ≤ W5.heap.size := (HWB.out _ br).2.2.1.size
   by_cases hlt : k < h.sets.length
   case neg =>
    obtain rfl : k = h.sets.length := by omega
    have hw := (HWB.out _ hB).2.2.1;have HZ : Hid ((atTo h s.cues (planS h s G) ms h.sets.length).1.length = h.sets.length) := lh (atTo_len _ HO2.out.1)
    go_wp2_with fail
    go_ret2
    exact ⟨lh ⟨_, by first | rfl | (rw [HR.out, HO2.out.1]; rfl) | rw [HR.out, HO2.out.1], by rw [HR.out]; exact ⟨fun _ => by rw [HZ.out]; exact ownsRow_base HO2.out.2 hws, fun e => absurd HO2.out.1 e⟩⟩, hw⟩
   have HWS := lh hws;have k0 : 0 ≤ (k : Int) := by omega
   have k1 : (k : Int) < (h.sets.length : Int) := by omega
   have kw : IntKind.i64.wrap ((k : Int) + 1) = (k : Int) + 1 := IntWalk.i64_in _ (by omega);obtain ⟨⟨a0, a1, a2, a3⟩, ⟨s0, s1⟩, -, p0, p1, p2, -, -, -, -⟩ := HWB.out _ hB;have HPK := lh (HPT.out wk k hB hlt);obtain ⟨Y, hY⟩ := nm (pathP h s.cues (planS h s G) k);rw [hY] at HPK;have HY := lh hY;clear hY hws
   go_upto_region 16 with (go_at_call 48; (with_reducible refine HPK.out.mono ?_); rintro e w6 ⟨hx6, hb6⟩; obtain ⟨v6, rfl, hv6⟩ := hx6.out; have HV6 := lh hv6; clear hx6 hv6)
   have HB6 : Hid (Below W5.heap.size W5 w6) := lh (hB.trans (hb6.mono hB.size));have HO6 : Hid (w6.ownsRow W5.heap.size 49 2 u13 k (frflat (atTo h s.cues (planS h s G) ms k).1)) := lh (ownsRow_below HO2.out.2 hb6);clear a0 a1 a2 a3 s0 s1 p0 p1 p2 hb6 hB
   by_cases he : Y.2 = 0
   case neg =>
    have hF : setAt h s.cues (planS h s G) ms k = (0, 0, Y.2) := by unfold setAt; rw [HY.out, if_neg he]
    have hF2 : atTo h s.cues (planS h s G) ms (k + 1) = ([], Y.2) := by rw [atTo_fail HO2.out.1 (by rw [hF]; exact he), hF]
    have HE2 : Hid (atE h s G ms = ([], Y.2)) := lh (by rw [HR.out, atTo_err (k := k + 1) (by rw [hF2]; exact he) _ hlt, hF2]);have hwb := (HWB.out _ HB6.out).2.2.1;have hye : (Y.2 == 0) = false := by simpa using he
    clear hF hF2
    go_wp2_with fail
    go_ret2
    exact ⟨lh ⟨_, by first | rfl | (rw [HE2.out]; rfl) | rw [HE2.out], by rw [HE2.out]; exact ⟨fun e => absurd e he, fun _ => rfl⟩⟩, hwb⟩
   have hr6 := HV6.out.1 he;obtain ⟨ya, yc, rfl, -, -, -, hps⟩ := pc_of_row hr6;obtain ⟨X, hX⟩ := nm (atP Y.1 (N1, D1));have HQA := lh (qat_any Y.1 (by rw [← HY.out]; exact HCV.out k hlt HE.out HO.out (by rw [HY.out]; exact he)) (N1, D1) ya yc w6 hps);rw [hX] at HQA;have HSA : Hid (setAt h s.cues (planS h s G) ms k = X) := lh (by unfold setAt; rw [HY.out, if_pos he, HND.out.1, HND.out.2, hX]);have hye : (Y.2 == 0) = true := by simpa using he
   obtain ⟨f0, f1⟩ := HF5.out _ HB6.out;clear hr6 hps hX
   go_upto_region 19 with (go_at_call 39; (with_reducible refine HQA.out.mono ?_); rintro e w7 ⟨rfl, hb7⟩)
   have hf7 := FI.put w7 X.1 X.2.1 49;have hb8 := hb7.alloc hb7.size (.cells #[.int .i64 X.1, .int .i64 X.2.1] 49);obtain ⟨Bx, hBx⟩ := nm (w7.heap.size);obtain ⟨W8, hW8⟩ := nm (w7.alloc (.cells #[.int .i64 X.1, .int .i64 X.2.1] 49));rw [hW8] at hf7 hb8;simp only [hW8];rw [hBx] at hf7;simp only [hBx];have HB8 : Hid (Below W5.heap.size W5 W8) := lh (HB6.out.trans (hb8.mono HB6.out.size));have HO8 : Hid (W8.ownsRow W5.heap.size 49 2 u13 k (frflat (atTo h s.cues (planS h s G) ms k).1)) := lh (ownsRow_below HO6.out hb8);have HLN : Hid ((atTo h s.cues (planS h s G) ms k).1.length = k) := lh (atTo_len k HO2.out.1);obtain ⟨y0, y1, -⟩ := hf7;clear hBx hW8 hb8 hb7 f0 f1
   by_cases hx : X.2.2 = 0
   case neg =>
    have hF2 : atTo h s.cues (planS h s G) ms (k + 1) = ([], X.2.2) := by rw [atTo_fail HO2.out.1 (by rw [HSA.out]; exact hx), HSA.out]
    have HE2 : Hid (atE h s G ms = ([], X.2.2)) := lh (by rw [HR.out, atTo_err (k := k + 1) (by rw [hF2]; exact hx) _ hlt, hF2]);have hwb := (HWB.out _ HB8.out).2.2.1;have hxe : (X.2.2 == 0) = false := by simpa using hx
    clear hF2
    go_wp2_with fail
    go_ret2
    exact ⟨lh ⟨_, by first | rfl | (rw [HE2.out]; rfl) | rw [HE2.out], by rw [HE2.out]; exact ⟨fun e => absurd e hx, fun _ => rfl⟩⟩, hwb⟩
   have hxe : (X.2.2 == 0) = true := by simpa using hx
   have HN2 : Hid (atTo h s.cues (planS h s G) ms (k + 1) = ((atTo h s.cues (planS h s G) ms k).1 ++ [(X.1, X.2.1)], 0)) := lh (by rw [atTo_next HO2.out.1 (by rw [HSA.out]; exact hx), HSA.out]);obtain ⟨L, hL⟩ := nm ((atTo h s.cues (planS h s G) ms k).1);rw [hL] at HN2 HLN HO8;have HOL : Hid (W8.ownsRow W5.heap.size 49 2 u13 L.length (frflat L)) := lh (by rw [HLN.out]; exact HO8.out);have hsz := HB8.out.size;clear hL HO2 HO6
   go_wp2_with (at_builtin; refine fr_append rfl _ _ rfl W5.heap.size _ L rfl (HOL.out.alloc _) _ (X.1, X.2.1) rfl ⟨by simp, by simp⟩ (by rw [HLN.out]; omega) (by simp; omega) ?_; intro v2 w9 hown9 hg9; have HO9 := lh hown9; have HB9 := lh ((below_a (.cells #[.int .i64 X.1, .int .i64 X.2.1] 49) HB8.out).grown hg9 (by simp; omega) (fun j e => (HOL.out.lt _ e).1)); clear hown9 hg9)
   go_roundw
   case rel => exact ⟨k + 1, by go_num, by omega, HB9.out, lh ⟨by rw [HN2.out], by have := HO9.out; rw [List.length_append, HLN.out] at this; rw [HN2.out]; exact this⟩⟩
   case measure => simp [intOf]; omega
end
section
open Go.RowKit
deriving instance DecidableEq for Pc
def xW : List Pc := [⟨0, 1, 0, 1, 0, 1, 50, 1⟩, ⟨2, 1, 200, 1, 200, 1, 0, 1⟩, ⟨5, 1, 800, 1, 200, 1, -50, 1⟩, ⟨7, 1, 1000, 1, 0, 1, 0, 1⟩]
def xP : List Pc := [⟨0, 1, 5000, 1, 0, 1, 0, 1⟩, ⟨2, 1, 5000, 1, 0, 1, -50, 1⟩, ⟨4, 1, 4800, 1, -200, 1, 0, 1⟩, ⟨7, 1, 4200, 1, -200, 1, 50, 1⟩, ⟨9, 1, 4000, 1, 0, 1, 0, 1⟩]
theorem x_curve : curveL 1000 xM.rise xM.fall (topV 1000 xM) = xW := by
 rw [x_top]
 decide +kernel
theorem x_path1 (a s m c : Option Addr) : pathTo (xH a s) (xT m c).cues [2000] 0 1 = (xP, 0) := by
 rw [pathTo_go (h := xH a s) (C := (xT m c).cues) (S := [2000]) (k := 0) (n := 0) (m := xM) (z := 5000) (d := 1000) (W := xW) rfl (by rfl) (by rfl) (by rfl) (by decide) (by decide) x_curve];show wayTo 2000 5000 (decide ((4000 : Int) > 5000)) [⟨0, 1, 5000, 1, 0, 1, 0, 1⟩] xW 4 = _
 decide +kernel
theorem x_pathP (a s m c : Option Addr) : pathP (xH a s) (xT m c).cues [2000] 0 = (xP, 0) := by
 have e : pathTo (xH a s) (xT m c).cues [2000] 0 (xT m c).cues.length = (xP, 0) := x_path1 a s m c;rw [pathP_ok (by rw [e]) (by rw [e]; decide), e]
theorem x_ordr (m c : Option Addr) : ordrB (xT m c).cues [2000] [7000] = true := ordrB_iff.2 fun i hi k hk => by
 have : i < 1 := hi;omega
theorem x_ok : CurveOK xP := ⟨by decide, by decide, fun i hi => by
  have hi' : i < 5 := hi;obtain rfl | rfl | rfl | rfl | rfl : i = 0 ∨ i = 1 ∨ i = 2 ∨ i = 3 ∨ i = 4 := by omega
  all_goals exact ⟨by decide +kernel, by decide +kernel, by decide +kernel, by decide +kernel⟩, fun i hi => by
  have hi' : i + 1 < 5 := hi;obtain rfl | rfl | rfl | rfl : i = 0 ∨ i = 1 ∨ i = 2 ∨ i = 3 := by omega
  all_goals decide +kernel⟩
theorem x_pathE (a s m c : Option Addr) : pathE (xH a s) (xT m c) [2000] ⟨#[115]⟩ = (xP, 0) := by
 unfold pathE;rw [x_planE, if_pos rfl, x_planS, x_lens, x_ordr m c, if_neg (show ¬ findS (xH a s).sets ⟨#[115]⟩ < 0 from by rw [show findS (xH a s).sets ⟨#[115]⟩ = 0 from x_find a s]; decide), show findS (xH a s).sets ⟨#[115]⟩ = 0 from x_find a s, if_pos rfl];exact x_pathP a s m c
theorem x_atE (a s m c : Option Addr) : atE (xH a s) (xT m c) [2000] 5000 = ([(4600, 1)], 0) := by
 unfold atE;rw [x_planE, if_pos rfl, x_planS, x_lens, x_ordr m c, if_neg (by decide), if_pos rfl]
 have e : setAt (xH a s) (xT m c).cues [2000] 5000 0 = (4600, 1, 0) := by
  unfold setAt;rw [x_pathP, if_pos rfl]
  decide +kernel
 show atTo (xH a s) (xT m c).cues [2000] 5000 1 = _;rw [atTo_next rfl (by rw [e]), e]
 rfl
end
section
open Go.RowKit Go.Shelf
attribute [local go_sem] Oper.semAt_some
def Hs (w : World) (b : Nat) (vs : List Value) : Prop := ∀ i (h : i < vs.length), w.cell? ⟨b, i, none⟩ = some vs[i]
theorem Hs.new (w : World) (vs : List Value) (t : TypeId) {n : Nat} (hn : w.heap.size = n) : Hs (w.alloc (.cells vs.toArray t)) n vs := fun i h => by
 subst hn
 simp [h]
theorem Hs.at {w : World} {b : Nat} {vs : List Value} (h : Hs w b vs) (i : Nat) {v : Value} (e : vs[i]? = some v) : w.cell? ⟨b, i, none⟩ = some v := by
 obtain ⟨hi, rfl⟩ := List.getElem?_eq_some_iff.1 e;exact h i hi
theorem Hs.al {w : World} {b : Nat} {vs : List Value} (h : Hs w b vs) (o : Obj) : Hs (w.alloc o) b vs := fun i hi =>
 ((below_new w o).cell (p := ⟨b, i, none⟩) (wl (h i hi))).trans (h i hi)
theorem Hs.far {w : World} {b b2 : Nat} {vs : List Value} (h : Hs w b vs) (hne : b ≠ b2) : ∀ (us : List Value) (j : Nat), Hs (setFrom w b2 j us) b vs := by
 intro us
 induction us generalizing w with
 | nil => exact fun _ => h
 | cons u us ih => exact fun j => ih (w := w.setCell ⟨b2, j, none⟩ u) (fun i hi => (World.cell?_setCell_other _ _ _ _ (fun x => hne (congrArg Addr.block x).symm)).trans (h i hi)) (j + 1)
theorem Hs.put {w : World} {b : Nat} {us vs : List Value} (h : Hs w b us) (hl : vs.length = us.length) : Hs (setFrom w b 0 vs) b vs := fun i hi => by
 have := read_from vs w b 0 (fun k hk => by rw [Nat.zero_add, h k (by omega)]; rfl) i hi
 rwa [Nat.zero_add] at this
theorem size_from : ∀ (us : List Value) (w : World) (b j : Nat), (setFrom w b j us).heap.size = w.heap.size
 | [], _, _, _ => rfl
 | u :: us, w, b, j => (size_from us (w.setCell ⟨b, j, none⟩ u) b (j + 1)).trans (by simp)
theorem free_from : ∀ (us : List Value) (w : World) (b j : Nat) (p : Addr), (setFrom w b j us).frozen? p = w.frozen? p
 | [], _, _, _, _ => rfl
 | u :: us, w, b, j, p => (free_from us (w.setCell ⟨b, j, none⟩ u) b (j + 1) p).trans (by simp)
structure XS (w W : World) (n b1 b2 b3 b4 b5 b6 b7 : Nat) (a c : List Value) : Prop where
 below : Below n w W
 size : b7 < W.heap.size
 h0 : Hs W n a
 h1 : Hs W b1 c
 h2 : Hs W b2 [.int .i64 0, .int .i64 2000]
 h3 : Hs W b3 [.string ⟨#[115]⟩, .int .i64 0, .int .i64 0, .int .i64 5000, .int .i64 2000, .slice (some ⟨b2, 0, none⟩) 2 2, .int .i64 0, .int .i64 0, .int .i64 1, .int .i64 1, .int .i64 0, .slice none 0 0, .slice none 0 0]
 h4 : Hs W b4 [.string ⟨#[104]⟩, .int .i64 5000, .slice (some ⟨b3, 0, none⟩) 1 1, .slice none 0 0]
 h5 : Hs W b5 [.string ⟨#[115]⟩, .int .i64 4000, .int .i64 200, .int .i64 100, .int .i64 100]
 h6 : Hs W b6 [.string ⟨#[113]⟩, .string ⟨#[]⟩, .int .i64 1, .int .i64 0, .slice (some ⟨b5, 0, none⟩) 1 1, .int .i64 0, .int .i64 0]
 h7 : Hs W b7 [.slice (some ⟨b6, 0, none⟩) 1 1, .slice none 0 0]
 fr : ∀ i, W.frozen? ⟨n, i, none⟩ = false ∧ W.frozen? ⟨b1, i, none⟩ = false
structure XB (n b1 b2 b3 b4 b5 b6 b7 : Nat) : Prop where
 e1 : b1 = n + 1
 e2 : b2 = n + 2
 e3 : b3 = n + 3
 e4 : b4 = n + 4
 e5 : b5 = n + 5
 e6 : b6 = n + 6
 e7 : b7 = n + 7
section
variable {w W : World} {n b1 b2 b3 b4 b5 b6 b7 : Nat} {a c : List Value}
theorem XS.al (h : XS w W n b1 b2 b3 b4 b5 b6 b7 a c) (e : XB n b1 b2 b3 b4 b5 b6 b7) (o : Array Value) (t : TypeId) : XS w (W.alloc (.cells o t)) n b1 b2 b3 b4 b5 b6 b7 a c := by
 have := h.size;have := e.e7;exact ⟨h.below.alloc (by omega) _, by simp; omega, h.h0.al _, h.h1.al _, h.h2.al _, h.h3.al _, h.h4.al _, h.h5.al _, h.h6.al _, h.h7.al _, fun i => ⟨(frozen?_alloc_cells W o t _).trans (h.fr i).1, (frozen?_alloc_cells W o t _).trans (h.fr i).2⟩⟩
theorem XS.s0 (h : XS w W n b1 b2 b3 b4 b5 b6 b7 a c) (e : XB n b1 b2 b3 b4 b5 b6 b7) (vs : List Value) (hl : vs.length = a.length) : XS w (setFrom W n 0 vs) n b1 b2 b3 b4 b5 b6 b7 vs c := by
 obtain ⟨e1, e2, e3, e4, e5, e6, e7⟩ := e;exact ⟨below_from vs W 0 h.below (Nat.le_refl _), by rw [size_from]; exact h.size, h.h0.put hl, h.h1.far (by omega) _ _, h.h2.far (by omega) _ _, h.h3.far (by omega) _ _, h.h4.far (by omega) _ _, h.h5.far (by omega) _ _, h.h6.far (by omega) _ _, h.h7.far (by omega) _ _, fun i => by rw [free_from, free_from]; exact h.fr i⟩
theorem XS.s1 (h : XS w W n b1 b2 b3 b4 b5 b6 b7 a c) (e : XB n b1 b2 b3 b4 b5 b6 b7) (vs : List Value) (hl : vs.length = c.length) : XS w (setFrom W b1 0 vs) n b1 b2 b3 b4 b5 b6 b7 a vs := by
 obtain ⟨e1, e2, e3, e4, e5, e6, e7⟩ := e;exact ⟨below_from vs W 0 h.below (by omega), by rw [size_from]; exact h.size, h.h0.far (by omega) _ _, h.h1.put hl, h.h2.far (by omega) _ _, h.h3.far (by omega) _ _, h.h4.far (by omega) _ _, h.h5.far (by omega) _ _, h.h6.far (by omega) _ _, h.h7.far (by omega) _ _, fun i => by rw [free_from, free_from]; exact h.fr i⟩
theorem XS.drew (h : XS w W n b1 b2 b3 b4 b5 b6 b7 a c) : XS w W.drew n b1 b2 b3 b4 b5 b6 b7 a c := ⟨h.below.drew, h.size, h.h0, h.h1, h.h2, h.h3, h.h4, h.h5, h.h6, h.h7, h.fr⟩
theorem XS.held (h : XS w W n b1 b2 b3 b4 b5 b6 b7 a c) : W.cell? ⟨b4, 0, none⟩ = some (.string ⟨#[104]⟩) ∧ W.cell? ⟨b4, 1, none⟩ = some (.int .i64 5000) ∧ W.cell? ⟨b4, 2, none⟩ = some (.slice (some ⟨b3, 0, none⟩) 1 1) ∧ W.cell? ⟨b4, 3, none⟩ = some (.slice none 0 0) ∧ W.cell? ⟨b7, 0, none⟩ = some (.slice (some ⟨b6, 0, none⟩) 1 1) ∧ W.cell? ⟨b7, 1, none⟩ = some (.slice none 0 0) :=
 ⟨h.h4.at 0 rfl, h.h4.at 1 rfl, h.h4.at 2 rfl, h.h4.at 3 rfl, h.h7.at 0 rfl, h.h7.at 1 rfl⟩
theorem one_lt {i : Nat} (h : i < 1) : i = 0 := by omega
theorem XS.got (h : XS w W n b1 b2 b3 b4 b5 b6 b7 a c) (e : XB n b1 b2 b3 b4 b5 b6 b7) : HouseIn W (xH (some ⟨b2, 0, none⟩) (some ⟨b3, 0, none⟩)) ∧ SheetIn W (xT (some ⟨b5, 0, none⟩) (some ⟨b6, 0, none⟩)) := by
 obtain ⟨e1, e2, e3, e4, e5, e6, e7⟩ := e;have hz := h.size
 have si : SetIn W (xS (some ⟨b2, 0, none⟩)) := ⟨⟨fun _ => ⟨b2, 0, rfl, by omega, fun i hi => by
  have hi' : i < 2 := hi;obtain rfl | rfl : i = 0 ∨ i = 1 := by omega
  ·exact h.h2.at 0 rfl
  ·exact h.h2.at 1 rfl⟩, fun hl => absurd hl (Nat.lt_irrefl 0), fun hl => absurd hl (Nat.lt_irrefl 0), Nat.le_refl 2, Nat.le_refl 0, Nat.le_refl 0, (fun e => by cases e), fun _ => rfl, fun _ => rfl⟩, fun x hx => absurd hx (by simp [xS]), fun x hx => absurd hx (by simp [xS])⟩
 refine ⟨⟨⟨fun _ => ⟨b3, 0, rfl, by omega, fun i hi => ?_⟩, fun hl => absurd hl (Nat.lt_irrefl 0), fun i hi => ?_, Nat.le_refl 1, Nat.le_refl 0, (fun e => by cases e), fun _ => rfl⟩, fun i hi => ?_, (show 1 ≤ 1000 by decide), (show 0 ≤ 1000 by decide)⟩, ?_⟩
 ·obtain rfl := one_lt hi
  exact ⟨h.h3.at 0 rfl, h.h3.at 1 rfl, h.h3.at 2 rfl, h.h3.at 3 rfl, h.h3.at 4 rfl, h.h3.at 5 rfl, h.h3.at 6 rfl, h.h3.at 7 rfl, h.h3.at 8 rfl, h.h3.at 9 rfl, h.h3.at 10 rfl, h.h3.at 11 rfl, h.h3.at 12 rfl⟩
 ·obtain rfl := one_lt hi
  exact si.toSetIn0
 ·obtain rfl := one_lt hi
  exact si
 ·refine ⟨⟨fun _ => ⟨b6, 0, rfl, by omega, fun i hi => ?_⟩, fun i hi => ?_, fun hl => absurd hl (Nat.lt_irrefl 0), Nat.le_refl 1, (fun e => by cases e), fun i hi => ?_, fun i hi => ?_, Nat.le_refl 0, fun _ => rfl⟩, (show 1 ≤ 1000 by decide), fun i hi => ?_, fun x hx => absurd hx (by simp [xT])⟩
  ·obtain rfl := one_lt hi
   exact ⟨h.h6.at 0 rfl, h.h6.at 1 rfl, h.h6.at 2 rfl, h.h6.at 3 rfl, h.h6.at 4 rfl, h.h6.at 5 rfl, h.h6.at 6 rfl⟩
  ·obtain rfl := one_lt hi
   refine fun _ => ⟨b5, 0, rfl, by omega, fun i hi => ?_⟩;obtain rfl := one_lt hi;exact ⟨h.h5.at 0 rfl, h.h5.at 1 rfl, h.h5.at 2 rfl, h.h5.at 3 rfl, h.h5.at 4 rfl⟩
  ·obtain rfl := one_lt hi
   exact Nat.le_refl 1
  ·obtain rfl := one_lt hi
   exact (fun e => by cases e)
  ·obtain rfl := one_lt hi
   exact (show 1 ≤ 1000 by decide)
end
theorem xs_new (w : World) (n b1 b2 b3 b4 b5 b6 b7 : Nat) (hn : w.heap.size = n) (e : XB n b1 b2 b3 b4 b5 b6 b7) : XS w ((((((((w.alloc (.cells #[.string ⟨#[]⟩, .int .i64 0, .slice none 0 0, .slice none 0 0] 25)).alloc (.cells #[.slice none 0 0, .slice none 0 0] 29)).alloc (.cells #[.int .i64 0, .int .i64 2000] 3)).alloc (.cells #[.string ⟨#[115]⟩, .int .i64 0, .int .i64 0, .int .i64 5000, .int .i64 2000, .slice (some ⟨b2, 0, none⟩) 2 2, .int .i64 0, .int .i64 0, .int .i64 1, .int .i64 1, .int .i64 0, .slice none 0 0, .slice none 0 0] 59)).alloc (.cells #[.string ⟨#[104]⟩, .int .i64 5000, .slice (some ⟨b3, 0, none⟩) 1 1, .slice none 0 0] 25)).alloc (.cells #[.string ⟨#[115]⟩, .int .i64 4000, .int .i64 200, .int .i64 100, .int .i64 100] 94)).alloc (.cells #[.string ⟨#[113]⟩, .string ⟨#[]⟩, .int .i64 1, .int .i64 0, .slice (some ⟨b5, 0, none⟩) 1 1, .int .i64 0, .int .i64 0] 86)).alloc (.cells #[.slice (some ⟨b6, 0, none⟩) 1 1, .slice none 0 0] 29)) n b1 b2 b3 b4 b5 b6 b7 [.string ⟨#[]⟩, .int .i64 0, .slice none 0 0, .slice none 0 0] [.slice none 0 0, .slice none 0 0] := by
 obtain ⟨e1, e2, e3, e4, e5, e6, e7⟩ := e;have H0 := Hs.new w [.string ⟨#[]⟩, .int .i64 0, .slice none 0 0, .slice none 0 0] 25 (n := n) (by exact hn);have z0 : (w.alloc (.cells #[.string ⟨#[]⟩, .int .i64 0, .slice none 0 0, .slice none 0 0] 25)).heap.size = n + 1 := by simp [hn]
 have q0 : Below n w (w.alloc (.cells #[.string ⟨#[]⟩, .int .i64 0, .slice none 0 0, .slice none 0 0] 25)) := by have := below_new w (.cells #[.string ⟨#[]⟩, .int .i64 0, .slice none 0 0, .slice none 0 0] 25); rwa [hn] at this
 have f0 : ∀ i, (w.alloc (.cells #[.string ⟨#[]⟩, .int .i64 0, .slice none 0 0, .slice none 0 0] 25)).frozen? ⟨n, i, none⟩ = false := fun i => World.frozen?_alloc_at _ _ _ _ (by exact hn.symm);generalize w.alloc (.cells #[.string ⟨#[]⟩, .int .i64 0, .slice none 0 0, .slice none 0 0] 25) = w1 at *;have H1 := Hs.new w1 [.slice none 0 0, .slice none 0 0] 29 (n := b1) (by rw [z0]; omega);replace H0 := H0.al (.cells #[.slice none 0 0, .slice none 0 0] 29);have z1 : (w1.alloc (.cells #[.slice none 0 0, .slice none 0 0] 29)).heap.size = n + 2 := by simp [z0]
 replace q0 := q0.alloc (by omega) (.cells #[.slice none 0 0, .slice none 0 0] 29);have q1 := q0;replace f0 : ∀ i, (w1.alloc (.cells #[.slice none 0 0, .slice none 0 0] 29)).frozen? ⟨n, i, none⟩ = false := fun i => (frozen?_alloc_cells _ _ _ _).trans (f0 i);have f1 : ∀ i, (w1.alloc (.cells #[.slice none 0 0, .slice none 0 0] 29)).frozen? ⟨b1, i, none⟩ = false := fun i => World.frozen?_alloc_at _ _ _ _ (by rw [z0]; omega);generalize w1.alloc (.cells #[.slice none 0 0, .slice none 0 0] 29) = w2 at *;have H2 := Hs.new w2 [.int .i64 0, .int .i64 2000] 3 (n := b2) (by rw [z1]; omega);replace H0 := H0.al (.cells #[.int .i64 0, .int .i64 2000] 3);replace H1 := H1.al (.cells #[.int .i64 0, .int .i64 2000] 3);have z2 : (w2.alloc (.cells #[.int .i64 0, .int .i64 2000] 3)).heap.size = n + 3 := by simp [z1]
 replace q1 := q1.alloc (by omega) (.cells #[.int .i64 0, .int .i64 2000] 3);have q2 := q1;replace f0 : ∀ i, (w2.alloc (.cells #[.int .i64 0, .int .i64 2000] 3)).frozen? ⟨n, i, none⟩ = false := fun i => (frozen?_alloc_cells _ _ _ _).trans (f0 i);replace f1 : ∀ i, (w2.alloc (.cells #[.int .i64 0, .int .i64 2000] 3)).frozen? ⟨b1, i, none⟩ = false := fun i => (frozen?_alloc_cells _ _ _ _).trans (f1 i);generalize w2.alloc (.cells #[.int .i64 0, .int .i64 2000] 3) = w3 at *;have H3 := Hs.new w3 [.string ⟨#[115]⟩, .int .i64 0, .int .i64 0, .int .i64 5000, .int .i64 2000, .slice (some ⟨b2, 0, none⟩) 2 2, .int .i64 0, .int .i64 0, .int .i64 1, .int .i64 1, .int .i64 0, .slice none 0 0, .slice none 0 0] 59 (n := b3) (by rw [z2]; omega);replace H0 := H0.al (.cells #[.string ⟨#[115]⟩, .int .i64 0, .int .i64 0, .int .i64 5000, .int .i64 2000, .slice (some ⟨b2, 0, none⟩) 2 2, .int .i64 0, .int .i64 0, .int .i64 1, .int .i64 1, .int .i64 0, .slice none 0 0, .slice none 0 0] 59);replace H1 := H1.al (.cells #[.string ⟨#[115]⟩, .int .i64 0, .int .i64 0, .int .i64 5000, .int .i64 2000, .slice (some ⟨b2, 0, none⟩) 2 2, .int .i64 0, .int .i64 0, .int .i64 1, .int .i64 1, .int .i64 0, .slice none 0 0, .slice none 0 0] 59);replace H2 := H2.al (.cells #[.string ⟨#[115]⟩, .int .i64 0, .int .i64 0, .int .i64 5000, .int .i64 2000, .slice (some ⟨b2, 0, none⟩) 2 2, .int .i64 0, .int .i64 0, .int .i64 1, .int .i64 1, .int .i64 0, .slice none 0 0, .slice none 0 0] 59);have z3 : (w3.alloc (.cells #[.string ⟨#[115]⟩, .int .i64 0, .int .i64 0, .int .i64 5000, .int .i64 2000, .slice (some ⟨b2, 0, none⟩) 2 2, .int .i64 0, .int .i64 0, .int .i64 1, .int .i64 1, .int .i64 0, .slice none 0 0, .slice none 0 0] 59)).heap.size = n + 4 := by simp [z2]
 replace q2 := q2.alloc (by omega) (.cells #[.string ⟨#[115]⟩, .int .i64 0, .int .i64 0, .int .i64 5000, .int .i64 2000, .slice (some ⟨b2, 0, none⟩) 2 2, .int .i64 0, .int .i64 0, .int .i64 1, .int .i64 1, .int .i64 0, .slice none 0 0, .slice none 0 0] 59);have q3 := q2;replace f0 : ∀ i, (w3.alloc (.cells #[.string ⟨#[115]⟩, .int .i64 0, .int .i64 0, .int .i64 5000, .int .i64 2000, .slice (some ⟨b2, 0, none⟩) 2 2, .int .i64 0, .int .i64 0, .int .i64 1, .int .i64 1, .int .i64 0, .slice none 0 0, .slice none 0 0] 59)).frozen? ⟨n, i, none⟩ = false := fun i => (frozen?_alloc_cells _ _ _ _).trans (f0 i);replace f1 : ∀ i, (w3.alloc (.cells #[.string ⟨#[115]⟩, .int .i64 0, .int .i64 0, .int .i64 5000, .int .i64 2000, .slice (some ⟨b2, 0, none⟩) 2 2, .int .i64 0, .int .i64 0, .int .i64 1, .int .i64 1, .int .i64 0, .slice none 0 0, .slice none 0 0] 59)).frozen? ⟨b1, i, none⟩ = false := fun i => (frozen?_alloc_cells _ _ _ _).trans (f1 i);generalize w3.alloc (.cells #[.string ⟨#[115]⟩, .int .i64 0, .int .i64 0, .int .i64 5000, .int .i64 2000, .slice (some ⟨b2, 0, none⟩) 2 2, .int .i64 0, .int .i64 0, .int .i64 1, .int .i64 1, .int .i64 0, .slice none 0 0, .slice none 0 0] 59) = w4 at *;have H4 := Hs.new w4 [.string ⟨#[104]⟩, .int .i64 5000, .slice (some ⟨b3, 0, none⟩) 1 1, .slice none 0 0] 25 (n := b4) (by rw [z3]; omega);replace H0 := H0.al (.cells #[.string ⟨#[104]⟩, .int .i64 5000, .slice (some ⟨b3, 0, none⟩) 1 1, .slice none 0 0] 25);replace H1 := H1.al (.cells #[.string ⟨#[104]⟩, .int .i64 5000, .slice (some ⟨b3, 0, none⟩) 1 1, .slice none 0 0] 25);replace H2 := H2.al (.cells #[.string ⟨#[104]⟩, .int .i64 5000, .slice (some ⟨b3, 0, none⟩) 1 1, .slice none 0 0] 25);replace H3 := H3.al (.cells #[.string ⟨#[104]⟩, .int .i64 5000, .slice (some ⟨b3, 0, none⟩) 1 1, .slice none 0 0] 25);have z4 : (w4.alloc (.cells #[.string ⟨#[104]⟩, .int .i64 5000, .slice (some ⟨b3, 0, none⟩) 1 1, .slice none 0 0] 25)).heap.size = n + 5 := by simp [z3]
 replace q3 := q3.alloc (by omega) (.cells #[.string ⟨#[104]⟩, .int .i64 5000, .slice (some ⟨b3, 0, none⟩) 1 1, .slice none 0 0] 25);have q4 := q3;replace f0 : ∀ i, (w4.alloc (.cells #[.string ⟨#[104]⟩, .int .i64 5000, .slice (some ⟨b3, 0, none⟩) 1 1, .slice none 0 0] 25)).frozen? ⟨n, i, none⟩ = false := fun i => (frozen?_alloc_cells _ _ _ _).trans (f0 i);replace f1 : ∀ i, (w4.alloc (.cells #[.string ⟨#[104]⟩, .int .i64 5000, .slice (some ⟨b3, 0, none⟩) 1 1, .slice none 0 0] 25)).frozen? ⟨b1, i, none⟩ = false := fun i => (frozen?_alloc_cells _ _ _ _).trans (f1 i);generalize w4.alloc (.cells #[.string ⟨#[104]⟩, .int .i64 5000, .slice (some ⟨b3, 0, none⟩) 1 1, .slice none 0 0] 25) = w5 at *;have H5 := Hs.new w5 [.string ⟨#[115]⟩, .int .i64 4000, .int .i64 200, .int .i64 100, .int .i64 100] 94 (n := b5) (by rw [z4]; omega);replace H0 := H0.al (.cells #[.string ⟨#[115]⟩, .int .i64 4000, .int .i64 200, .int .i64 100, .int .i64 100] 94);replace H1 := H1.al (.cells #[.string ⟨#[115]⟩, .int .i64 4000, .int .i64 200, .int .i64 100, .int .i64 100] 94);replace H2 := H2.al (.cells #[.string ⟨#[115]⟩, .int .i64 4000, .int .i64 200, .int .i64 100, .int .i64 100] 94);replace H3 := H3.al (.cells #[.string ⟨#[115]⟩, .int .i64 4000, .int .i64 200, .int .i64 100, .int .i64 100] 94);replace H4 := H4.al (.cells #[.string ⟨#[115]⟩, .int .i64 4000, .int .i64 200, .int .i64 100, .int .i64 100] 94);have z5 : (w5.alloc (.cells #[.string ⟨#[115]⟩, .int .i64 4000, .int .i64 200, .int .i64 100, .int .i64 100] 94)).heap.size = n + 6 := by simp [z4]
 replace q4 := q4.alloc (by omega) (.cells #[.string ⟨#[115]⟩, .int .i64 4000, .int .i64 200, .int .i64 100, .int .i64 100] 94);have q5 := q4;replace f0 : ∀ i, (w5.alloc (.cells #[.string ⟨#[115]⟩, .int .i64 4000, .int .i64 200, .int .i64 100, .int .i64 100] 94)).frozen? ⟨n, i, none⟩ = false := fun i => (frozen?_alloc_cells _ _ _ _).trans (f0 i);replace f1 : ∀ i, (w5.alloc (.cells #[.string ⟨#[115]⟩, .int .i64 4000, .int .i64 200, .int .i64 100, .int .i64 100] 94)).frozen? ⟨b1, i, none⟩ = false := fun i => (frozen?_alloc_cells _ _ _ _).trans (f1 i);generalize w5.alloc (.cells #[.string ⟨#[115]⟩, .int .i64 4000, .int .i64 200, .int .i64 100, .int .i64 100] 94) = w6 at *;have H6 := Hs.new w6 [.string ⟨#[113]⟩, .string ⟨#[]⟩, .int .i64 1, .int .i64 0, .slice (some ⟨b5, 0, none⟩) 1 1, .int .i64 0, .int .i64 0] 86 (n := b6) (by rw [z5]; omega);replace H0 := H0.al (.cells #[.string ⟨#[113]⟩, .string ⟨#[]⟩, .int .i64 1, .int .i64 0, .slice (some ⟨b5, 0, none⟩) 1 1, .int .i64 0, .int .i64 0] 86);replace H1 := H1.al (.cells #[.string ⟨#[113]⟩, .string ⟨#[]⟩, .int .i64 1, .int .i64 0, .slice (some ⟨b5, 0, none⟩) 1 1, .int .i64 0, .int .i64 0] 86);replace H2 := H2.al (.cells #[.string ⟨#[113]⟩, .string ⟨#[]⟩, .int .i64 1, .int .i64 0, .slice (some ⟨b5, 0, none⟩) 1 1, .int .i64 0, .int .i64 0] 86);replace H3 := H3.al (.cells #[.string ⟨#[113]⟩, .string ⟨#[]⟩, .int .i64 1, .int .i64 0, .slice (some ⟨b5, 0, none⟩) 1 1, .int .i64 0, .int .i64 0] 86);replace H4 := H4.al (.cells #[.string ⟨#[113]⟩, .string ⟨#[]⟩, .int .i64 1, .int .i64 0, .slice (some ⟨b5, 0, none⟩) 1 1, .int .i64 0, .int .i64 0] 86);replace H5 := H5.al (.cells #[.string ⟨#[113]⟩, .string ⟨#[]⟩, .int .i64 1, .int .i64 0, .slice (some ⟨b5, 0, none⟩) 1 1, .int .i64 0, .int .i64 0] 86);have z6 : (w6.alloc (.cells #[.string ⟨#[113]⟩, .string ⟨#[]⟩, .int .i64 1, .int .i64 0, .slice (some ⟨b5, 0, none⟩) 1 1, .int .i64 0, .int .i64 0] 86)).heap.size = n + 7 := by simp [z5]
 replace q5 := q5.alloc (by omega) (.cells #[.string ⟨#[113]⟩, .string ⟨#[]⟩, .int .i64 1, .int .i64 0, .slice (some ⟨b5, 0, none⟩) 1 1, .int .i64 0, .int .i64 0] 86);have q6 := q5;replace f0 : ∀ i, (w6.alloc (.cells #[.string ⟨#[113]⟩, .string ⟨#[]⟩, .int .i64 1, .int .i64 0, .slice (some ⟨b5, 0, none⟩) 1 1, .int .i64 0, .int .i64 0] 86)).frozen? ⟨n, i, none⟩ = false := fun i => (frozen?_alloc_cells _ _ _ _).trans (f0 i);replace f1 : ∀ i, (w6.alloc (.cells #[.string ⟨#[113]⟩, .string ⟨#[]⟩, .int .i64 1, .int .i64 0, .slice (some ⟨b5, 0, none⟩) 1 1, .int .i64 0, .int .i64 0] 86)).frozen? ⟨b1, i, none⟩ = false := fun i => (frozen?_alloc_cells _ _ _ _).trans (f1 i);generalize w6.alloc (.cells #[.string ⟨#[113]⟩, .string ⟨#[]⟩, .int .i64 1, .int .i64 0, .slice (some ⟨b5, 0, none⟩) 1 1, .int .i64 0, .int .i64 0] 86) = w7 at *;have H7 := Hs.new w7 [.slice (some ⟨b6, 0, none⟩) 1 1, .slice none 0 0] 29 (n := b7) (by rw [z6]; omega);replace H0 := H0.al (.cells #[.slice (some ⟨b6, 0, none⟩) 1 1, .slice none 0 0] 29);replace H1 := H1.al (.cells #[.slice (some ⟨b6, 0, none⟩) 1 1, .slice none 0 0] 29);replace H2 := H2.al (.cells #[.slice (some ⟨b6, 0, none⟩) 1 1, .slice none 0 0] 29);replace H3 := H3.al (.cells #[.slice (some ⟨b6, 0, none⟩) 1 1, .slice none 0 0] 29);replace H4 := H4.al (.cells #[.slice (some ⟨b6, 0, none⟩) 1 1, .slice none 0 0] 29);replace H5 := H5.al (.cells #[.slice (some ⟨b6, 0, none⟩) 1 1, .slice none 0 0] 29);replace H6 := H6.al (.cells #[.slice (some ⟨b6, 0, none⟩) 1 1, .slice none 0 0] 29);have z7 : (w7.alloc (.cells #[.slice (some ⟨b6, 0, none⟩) 1 1, .slice none 0 0] 29)).heap.size = n + 8 := by simp [z6]
 replace q6 := q6.alloc (by omega) (.cells #[.slice (some ⟨b6, 0, none⟩) 1 1, .slice none 0 0] 29);have q7 := q6;replace f0 : ∀ i, (w7.alloc (.cells #[.slice (some ⟨b6, 0, none⟩) 1 1, .slice none 0 0] 29)).frozen? ⟨n, i, none⟩ = false := fun i => (frozen?_alloc_cells _ _ _ _).trans (f0 i);replace f1 : ∀ i, (w7.alloc (.cells #[.slice (some ⟨b6, 0, none⟩) 1 1, .slice none 0 0] 29)).frozen? ⟨b1, i, none⟩ = false := fun i => (frozen?_alloc_cells _ _ _ _).trans (f1 i);exact ⟨q7, by rw [z7]; omega, H0, H1, H2, H3, H4, H5, H6, H7, fun i => ⟨f0 i, f1 i⟩⟩
theorem example_any (w : World) : Calls Tryz.prog 41 #[] w fun e w' => Hid (∃ b2 b3 b5 b6 b8 : Nat, e = .returned (.tuple #[.agg #[.string ⟨#[104]⟩, .int .i64 5000, .slice (some ⟨b3, 0, none⟩) 1 1, .slice none 0 0], .agg #[.slice (some ⟨b6, 0, none⟩) 1 1, .slice none 0 0], .slice (some ⟨b8, 0, none⟩) 1 1]) ∧ HouseIn w' (xH (some ⟨b2, 0, none⟩) (some ⟨b3, 0, none⟩)) ∧ SheetIn w' (xT (some ⟨b5, 0, none⟩) (some ⟨b6, 0, none⟩)) ∧ Nums w'.heap.size w' (some ⟨b8, 0, none⟩) [2000]) ∧ Below w.heap.size w w' := by
 go_enter Tryz.func41, Tryz.ntmps41
 go_upto_region 3 with (fail)
 obtain ⟨n, hn⟩ := nm (w.heap.size);obtain ⟨b1, hb1⟩ := nm (n + 1);obtain ⟨b2, hb2⟩ := nm (b1 + 1);obtain ⟨b3, hb3⟩ := nm (b2 + 1);obtain ⟨b4, hb4⟩ := nm (b3 + 1);obtain ⟨b5, hb5⟩ := nm (b4 + 1);obtain ⟨b6, hb6⟩ := nm (b5 + 1);obtain ⟨b7, hb7⟩ := nm (b6 + 1);have XE : XB n b1 b2 b3 b4 b5 b6 b7 := ⟨by omega, by omega, by omega, by omega, by omega, by omega, by omega⟩;have X0 := xs_new w n b1 b2 b3 b4 b5 b6 b7 hn XE;rw [hn] at ⊢;rw [hb1, hb2, hb3, hb4, hb5, hb6, hb7];generalize ((((((((w.alloc (.cells #[.string ⟨#[]⟩, .int .i64 0, .slice none 0 0, .slice none 0 0] 25)).alloc (.cells #[.slice none 0 0, .slice none 0 0] 29)).alloc (.cells #[.int .i64 0, .int .i64 2000] 3)).alloc (.cells #[.string ⟨#[115]⟩, .int .i64 0, .int .i64 0, .int .i64 5000, .int .i64 2000, .slice (some ⟨b2, 0, none⟩) 2 2, .int .i64 0, .int .i64 0, .int .i64 1, .int .i64 1, .int .i64 0, .slice none 0 0, .slice none 0 0] 59)).alloc (.cells #[.string ⟨#[104]⟩, .int .i64 5000, .slice (some ⟨b3, 0, none⟩) 1 1, .slice none 0 0] 25)).alloc (.cells #[.string ⟨#[115]⟩, .int .i64 4000, .int .i64 200, .int .i64 100, .int .i64 100] 94)).alloc (.cells #[.string ⟨#[113]⟩, .string ⟨#[]⟩, .int .i64 1, .int .i64 0, .slice (some ⟨b5, 0, none⟩) 1 1, .int .i64 0, .int .i64 0] 86)).alloc (.cells #[.slice (some ⟨b6, 0, none⟩) 1 1, .slice none 0 0] 29)) = W at *;have HNN := lh hn;clear hn hb1 hb2 hb3 hb4 hb5 hb6 hb7;have X1 := X0.drew;refine wp_region_held_drew (S := fun W => W.cell? ⟨b4, 0, none⟩ = some (.string ⟨#[104]⟩) ∧ W.cell? ⟨b4, 1, none⟩ = some (.int .i64 5000) ∧ W.cell? ⟨b4, 2, none⟩ = some (.slice (some ⟨b3, 0, none⟩) 1 1) ∧ W.cell? ⟨b4, 3, none⟩ = some (.slice none 0 0) ∧ W.cell? ⟨b7, 0, none⟩ = some (.slice (some ⟨b6, 0, none⟩) 1 1) ∧ W.cell? ⟨b7, 1, none⟩ = some (.slice none 0 0)) (by kernel_rfl) X1.held (fun hHeld => ?_);clear X0;generalize W.drew = V at *;refine tk 0 ?_; refine tk 1 ?_;have g0 := X1.h0.at 0 rfl; have g1 := X1.h0.at 1 rfl; have g2 := X1.h0.at 2 rfl; have g3 := X1.h0.at 3 rfl; have k0 := X1.h1.at 0 rfl; have k1 := X1.h1.at 1 rfl; have f0 := fun i => (X1.fr i).1; have f1 := fun i => (X1.fr i).2;refine ry [2, 3] (vl 2 (w1 := V.alloc (.cells #[.int .i64 2000] 3)) (X1.al XE _ _).held (fun hHeld => ?_) (vl 3 (w1 := setFrom V n 0 [.string ⟨#[104]⟩, .int .i64 5000, .slice (some ⟨b3, 0, none⟩) 1 1, .slice none 0 0]) (X1.s0 XE [.string ⟨#[104]⟩, .int .i64 5000, .slice (some ⟨b3, 0, none⟩) 1 1, .slice none 0 0] rfl).held (fun hHeld => ?_) nl))
 ·have X2 := X1.al XE #[.int .i64 2000] 3; have G := Hs.new V [.int .i64 2000] 3 (n := V.heap.size) rfl; have lg := X1.size; have lgh : V.heap.size < (V.alloc (.cells #[.int .i64 2000] 3)).heap.size := by simp
  obtain ⟨g, hg⟩ := nm (V.heap.size);simp only [hg] at G lg lgh ⊢;clear hg;generalize V.alloc (.cells #[.int .i64 2000] 3) = V1 at *;have g0 := X2.h0.at 0 rfl; have g1 := X2.h0.at 1 rfl; have g2 := X2.h0.at 2 rfl; have g3 := X2.h0.at 3 rfl; have k0 := X2.h1.at 0 rfl; have k1 := X2.h1.at 1 rfl; have f0 := fun i => (X2.fr i).1; have f1 := fun i => (X2.fr i).2;refine ry [3] (vl 3 (w1 := setFrom V1 n 0 [.string ⟨#[104]⟩, .int .i64 5000, .slice (some ⟨b3, 0, none⟩) 1 1, .slice none 0 0]) (X2.s0 XE [.string ⟨#[104]⟩, .int .i64 5000, .slice (some ⟨b3, 0, none⟩) 1 1, .slice none 0 0] rfl).held (fun hHeld => ?_) nl);have X3 := X2.s0 XE [.string ⟨#[104]⟩, .int .i64 5000, .slice (some ⟨b3, 0, none⟩) 1 1, .slice none 0 0] rfl;replace G := G.far (b2 := n) (by have := XE.e1; have := XE.e7; omega) [.string ⟨#[104]⟩, .int .i64 5000, .slice (some ⟨b3, 0, none⟩) 1 1, .slice none 0 0] 0;rw [← size_from [.string ⟨#[104]⟩, .int .i64 5000, .slice (some ⟨b3, 0, none⟩) 1 1, .slice none 0 0] V1 n 0] at lgh;generalize setFrom V1 n 0 [.string ⟨#[104]⟩, .int .i64 5000, .slice (some ⟨b3, 0, none⟩) 1 1, .slice none 0 0] = V2 at *;have g0 := X3.h0.at 0 rfl; have g1 := X3.h0.at 1 rfl; have g2 := X3.h0.at 2 rfl; have g3 := X3.h0.at 3 rfl; have k0 := X3.h1.at 0 rfl; have k1 := X3.h1.at 1 rfl; have f0 := fun i => (X3.fr i).1; have f1 := fun i => (X3.fr i).2;refine ry [4] (vl 4 (w1 := setFrom V2 b1 0 [.slice (some ⟨b6, 0, none⟩) 1 1, .slice none 0 0]) (X3.s1 XE [.slice (some ⟨b6, 0, none⟩) 1 1, .slice none 0 0] rfl).held (fun hHeld => ?_) nl);have X4 := X3.s1 XE [.slice (some ⟨b6, 0, none⟩) 1 1, .slice none 0 0] rfl;replace G := G.far (b2 := b1) (by have := XE.e1; have := XE.e7; omega) [.slice (some ⟨b6, 0, none⟩) 1 1, .slice none 0 0] 0;rw [← size_from [.slice (some ⟨b6, 0, none⟩) 1 1, .slice none 0 0] V2 b1 0] at lgh;generalize setFrom V2 b1 0 [.slice (some ⟨b6, 0, none⟩) 1 1, .slice none 0 0] = V3 at *;have g0 := X4.h0.at 0 rfl; have g1 := X4.h0.at 1 rfl; have g2 := X4.h0.at 2 rfl; have g3 := X4.h0.at 3 rfl; have k0 := X4.h1.at 0 rfl; have k1 := X4.h1.at 1 rfl; have f0 := fun i => (X4.fr i).1; have f1 := fun i => (X4.fr i).2;refine tk 5 ?_; refine dn ?_;have F := X4.got XE;have HN : Nums V3.heap.size V3 (some ⟨g, 0, none⟩) [2000] := fun _ => ⟨g, 0, rfl, lgh, fun i hi => by obtain rfl := one_lt hi; exact G.at 0 rfl⟩
  go_wp2_with fail
  exact bodyPost_ret (v := .tuple #[.agg #[.string ⟨#[104]⟩, .int .i64 5000, .slice (some ⟨b3, 0, none⟩) 1 1, .slice none 0 0], .agg #[.slice (some ⟨b6, 0, none⟩) 1 1, .slice none 0 0], .slice (some ⟨g, 0, none⟩) 1 1]) (by simp [results, Tryz.results41, go_sem, X4.h0.at 0 rfl, X4.h0.at 1 rfl, X4.h0.at 2 rfl, X4.h0.at 3 rfl, X4.h1.at 0 rfl, X4.h1.at 1 rfl]) rfl ⟨lh ⟨b2, b3, b5, b6, g, rfl, F.1, F.2, HN⟩, by rw [HNN.out]; exact X4.below⟩
 ·have X2 := X1.s0 XE [.string ⟨#[104]⟩, .int .i64 5000, .slice (some ⟨b3, 0, none⟩) 1 1, .slice none 0 0] rfl
  generalize setFrom V n 0 [.string ⟨#[104]⟩, .int .i64 5000, .slice (some ⟨b3, 0, none⟩) 1 1, .slice none 0 0] = V1 at *;have g0 := X2.h0.at 0 rfl; have g1 := X2.h0.at 1 rfl; have g2 := X2.h0.at 2 rfl; have g3 := X2.h0.at 3 rfl; have k0 := X2.h1.at 0 rfl; have k1 := X2.h1.at 1 rfl; have f0 := fun i => (X2.fr i).1; have f1 := fun i => (X2.fr i).2;refine ry [2, 4] (vl 2 (w1 := V1.alloc (.cells #[.int .i64 2000] 3)) (X2.al XE _ _).held (fun hHeld => ?_) (vl 4 (w1 := setFrom V1 b1 0 [.slice (some ⟨b6, 0, none⟩) 1 1, .slice none 0 0]) (X2.s1 XE [.slice (some ⟨b6, 0, none⟩) 1 1, .slice none 0 0] rfl).held (fun hHeld => ?_) nl))
  ·have X3 := X2.al XE #[.int .i64 2000] 3; have G := Hs.new V1 [.int .i64 2000] 3 (n := V1.heap.size) rfl; have lg := X2.size; have lgh : V1.heap.size < (V1.alloc (.cells #[.int .i64 2000] 3)).heap.size := by simp
   obtain ⟨g, hg⟩ := nm (V1.heap.size);simp only [hg] at G lg lgh ⊢;clear hg;generalize V1.alloc (.cells #[.int .i64 2000] 3) = V2 at *;have g0 := X3.h0.at 0 rfl; have g1 := X3.h0.at 1 rfl; have g2 := X3.h0.at 2 rfl; have g3 := X3.h0.at 3 rfl; have k0 := X3.h1.at 0 rfl; have k1 := X3.h1.at 1 rfl; have f0 := fun i => (X3.fr i).1; have f1 := fun i => (X3.fr i).2;refine ry [4] (vl 4 (w1 := setFrom V2 b1 0 [.slice (some ⟨b6, 0, none⟩) 1 1, .slice none 0 0]) (X3.s1 XE [.slice (some ⟨b6, 0, none⟩) 1 1, .slice none 0 0] rfl).held (fun hHeld => ?_) nl);have X4 := X3.s1 XE [.slice (some ⟨b6, 0, none⟩) 1 1, .slice none 0 0] rfl;replace G := G.far (b2 := b1) (by have := XE.e1; have := XE.e7; omega) [.slice (some ⟨b6, 0, none⟩) 1 1, .slice none 0 0] 0;rw [← size_from [.slice (some ⟨b6, 0, none⟩) 1 1, .slice none 0 0] V2 b1 0] at lgh;generalize setFrom V2 b1 0 [.slice (some ⟨b6, 0, none⟩) 1 1, .slice none 0 0] = V3 at *;have g0 := X4.h0.at 0 rfl; have g1 := X4.h0.at 1 rfl; have g2 := X4.h0.at 2 rfl; have g3 := X4.h0.at 3 rfl; have k0 := X4.h1.at 0 rfl; have k1 := X4.h1.at 1 rfl; have f0 := fun i => (X4.fr i).1; have f1 := fun i => (X4.fr i).2;refine tk 5 ?_; refine dn ?_;have F := X4.got XE;have HN : Nums V3.heap.size V3 (some ⟨g, 0, none⟩) [2000] := fun _ => ⟨g, 0, rfl, lgh, fun i hi => by obtain rfl := one_lt hi; exact G.at 0 rfl⟩
   go_wp2_with fail
   exact bodyPost_ret (v := .tuple #[.agg #[.string ⟨#[104]⟩, .int .i64 5000, .slice (some ⟨b3, 0, none⟩) 1 1, .slice none 0 0], .agg #[.slice (some ⟨b6, 0, none⟩) 1 1, .slice none 0 0], .slice (some ⟨g, 0, none⟩) 1 1]) (by simp [results, Tryz.results41, go_sem, X4.h0.at 0 rfl, X4.h0.at 1 rfl, X4.h0.at 2 rfl, X4.h0.at 3 rfl, X4.h1.at 0 rfl, X4.h1.at 1 rfl]) rfl ⟨lh ⟨b2, b3, b5, b6, g, rfl, F.1, F.2, HN⟩, by rw [HNN.out]; exact X4.below⟩
  ·have X3 := X2.s1 XE [.slice (some ⟨b6, 0, none⟩) 1 1, .slice none 0 0] rfl
   generalize setFrom V1 b1 0 [.slice (some ⟨b6, 0, none⟩) 1 1, .slice none 0 0] = V2 at *;have g0 := X3.h0.at 0 rfl; have g1 := X3.h0.at 1 rfl; have g2 := X3.h0.at 2 rfl; have g3 := X3.h0.at 3 rfl; have k0 := X3.h1.at 0 rfl; have k1 := X3.h1.at 1 rfl; have f0 := fun i => (X3.fr i).1; have f1 := fun i => (X3.fr i).2;refine ry [2] (vl 2 (w1 := V2.alloc (.cells #[.int .i64 2000] 3)) (X3.al XE _ _).held (fun hHeld => ?_) nl);have X4 := X3.al XE #[.int .i64 2000] 3; have G := Hs.new V2 [.int .i64 2000] 3 (n := V2.heap.size) rfl; have lg := X3.size; have lgh : V2.heap.size < (V2.alloc (.cells #[.int .i64 2000] 3)).heap.size := by simp
   obtain ⟨g, hg⟩ := nm (V2.heap.size);simp only [hg] at G lg lgh ⊢;clear hg;generalize V2.alloc (.cells #[.int .i64 2000] 3) = V3 at *;have g0 := X4.h0.at 0 rfl; have g1 := X4.h0.at 1 rfl; have g2 := X4.h0.at 2 rfl; have g3 := X4.h0.at 3 rfl; have k0 := X4.h1.at 0 rfl; have k1 := X4.h1.at 1 rfl; have f0 := fun i => (X4.fr i).1; have f1 := fun i => (X4.fr i).2;refine tk 5 ?_; refine dn ?_;have F := X4.got XE;have HN : Nums V3.heap.size V3 (some ⟨g, 0, none⟩) [2000] := fun _ => ⟨g, 0, rfl, lgh, fun i hi => by obtain rfl := one_lt hi; exact G.at 0 rfl⟩
   go_wp2_with fail
   exact bodyPost_ret (v := .tuple #[.agg #[.string ⟨#[104]⟩, .int .i64 5000, .slice (some ⟨b3, 0, none⟩) 1 1, .slice none 0 0], .agg #[.slice (some ⟨b6, 0, none⟩) 1 1, .slice none 0 0], .slice (some ⟨g, 0, none⟩) 1 1]) (by simp [results, Tryz.results41, go_sem, X4.h0.at 0 rfl, X4.h0.at 1 rfl, X4.h0.at 2 rfl, X4.h0.at 3 rfl, X4.h1.at 0 rfl, X4.h1.at 1 rfl]) rfl ⟨lh ⟨b2, b3, b5, b6, g, rfl, F.1, F.2, HN⟩, by rw [HNN.out]; exact X4.below⟩
end
section
open Go.RowKit Go.Shelf
theorem beg_equal (a1 a2 : Option Addr) (F1 F2 : List (ByteArray × Int)) (cap1 cap2 : Nat) (w : World) (hl : F1.length ≤ 1100) (h1 : Begs w.heap.size w a1 F1) (h2 : Begs w.heap.size w a2 F2) (hl2 : F2.length ≤ 1100) :
  Calls Tryz.prog 29 #[.slice a1 F1.length cap1, .slice a2 F2.length cap2] w fun e w' => e = .returned (.bool (decide (F1 = F2))) ∧ Below w.heap.size w w' := by
 have H1 := lh h1;have H2 := lh h2;clear h1 h2
 by_cases hle : F1.length = F2.length
 ·have hn : ((F1.length : Int) != (F2.length : Int)) = false := by rw [bne_eq_false_iff_eq]; omega
  have HL := lh hle; clear hle
  go_enter Tryz.func29, Tryz.ntmps29
  go_wp2
  go_loopw [13] (fun i wr => ∃ k : Nat, k ≤ F1.length ∧ i = .int .i64 k ∧ Below w.heap.size w wr ∧ Hid (∀ j, j < k → beg F1 j = beg F2 j)) (fun i _ => F1.length - (intOf i).toNat)
  case atStart => exact ⟨0, Nat.zero_le _, rfl, br, lh (fun _ h => absurd h (Nat.not_lt_zero _))⟩
  case round =>
   obtain ⟨k, hk, rfl, hB, HA⟩ := hrel
   by_cases hlt : k < F1.length
   ·have hlt2 : k < F2.length := by have := HL.out; omega
    obtain ⟨b, off, rfl, hb, hcx⟩ := H1.out (by omega);obtain ⟨b', off', rfl, hb', hcx'⟩ := H2.out (by omega);obtain ⟨c0, c1⟩ := hcx k hlt;obtain ⟨e0, e1⟩ := hcx' k hlt2;have d0 := (hB.cell (p := ⟨b, off + k * 2, none⟩) hb).trans c0;have d1 := (hB.cell (p := ⟨b, off + k * 2 + 1, none⟩) hb).trans c1;have f0 := (hB.cell (p := ⟨b', off' + k * 2, none⟩) hb').trans e0;have f1 := (hB.cell (p := ⟨b', off' + k * 2 + 1, none⟩) hb').trans e1;clear c0 c1 e0 e1 hcx hcx'
    by_cases q0 : (beg F1 k).1 = (beg F2 k).1
    ·by_cases q1 : (beg F1 k).2 = (beg F2 k).2
     ·have HB : Hid (∀ j, j < k + 1 → beg F1 j = beg F2 j) := lh fun j hj => by
       rcases Nat.lt_or_ge j k with l | l
       ·exact HA.out j l
       ·obtain rfl : j = k := by omega
        exact Prod.ext q0 q1
      have g0 := str_eq (beg F1 k).1 (beg F2 k).1;rw [decide_eq_true q0] at g0;have g1 : ((beg F1 k).2 == (beg F2 k).2) = true := beq_iff_eq.2 q1;have h1 : ((beg F1 k).2 != (beg F2 k).2) = false := bne_eq_false_iff_eq.2 q1;clear q0 q1
      go_wp2_with fail
      go_quiet (fail)
      go_wp2
      go_roundw
      case rel => exact ⟨k + 1, by omega, by go_num, below_drewN hB _, HB⟩
      case measure => simp [intOf]; omega
     ·have H : Hid (decide (F1 = F2) = false) := lh (dF (fun e => q1 (by rw [e])))
      have g0 := str_eq (beg F1 k).1 (beg F2 k).1;rw [decide_eq_true q0] at g0;have g1 : ((beg F1 k).2 == (beg F2 k).2) = false := beq_eq_false_iff_ne.2 q1;have h1 : ((beg F1 k).2 != (beg F2 k).2) = true := bne_iff_ne.2 q1;clear q0 q1
      go_wp2_with fail
      go_quiet (fail)
      go_wp2
      go_ret;exact ⟨congrArg (fun b => Ending.returned (.bool b)) H.out.symm, below_drewN hB _⟩
    ·have H : Hid (decide (F1 = F2) = false) := lh (dF (fun e => q0 (by rw [e])))
     have g0 := str_eq (beg F1 k).1 (beg F2 k).1;rw [decide_eq_false q0] at g0;clear q0
     go_wp2_with fail
     go_quiet (fail)
     go_wp2
     go_ret;exact ⟨congrArg (fun b => Ending.returned (.bool b)) H.out.symm, below_drewN hB _⟩
   ·obtain rfl : k = F1.length := by omega
    have H : Hid (decide (F1 = F2) = true) := lh (dT (beg_ext F1 F2 HL.out HA.out))
    go_wp2
    go_ret;exact ⟨congrArg (fun b => Ending.returned (.bool b)) H.out.symm, hB⟩
 ·have hn : ((F1.length : Int) != (F2.length : Int)) = true := bne_iff_ne.2 (by omega)
  have H : Hid (decide (F1 = F2) = false) := lh (dF (fun e => hle (by rw [e])));clear hle
  go_enter Tryz.func29, Tryz.ntmps29
  go_wp2
  go_ret;exact ⟨congrArg (fun b => Ending.returned (.bool b)) H.out.symm, br⟩

theorem fr_equal (a1 a2 : Option Addr) (F1 F2 : List (Int × Int)) (cap1 cap2 : Nat) (w : World) (hl : F1.length ≤ 1100) (h1 : Frs w.heap.size w a1 F1) (h2 : Frs w.heap.size w a2 F2) (hl2 : F2.length ≤ 1100) :
  Calls Tryz.prog 17 #[.slice a1 F1.length cap1, .slice a2 F2.length cap2] w fun e w' => e = .returned (.bool (decide (F1 = F2))) ∧ Below w.heap.size w w' := by
 have H1 := lh h1;have H2 := lh h2;clear h1 h2
 by_cases hle : F1.length = F2.length
 ·have hn : ((F1.length : Int) != (F2.length : Int)) = false := by rw [bne_eq_false_iff_eq]; omega
  have HL := lh hle; clear hle
  go_enter Tryz.func17, Tryz.ntmps17
  go_wp2
  go_loopw [13] (fun i wr => ∃ k : Nat, k ≤ F1.length ∧ i = .int .i64 k ∧ Below w.heap.size w wr ∧ Hid (∀ j, j < k → frg F1 j = frg F2 j)) (fun i _ => F1.length - (intOf i).toNat)
  case atStart => exact ⟨0, Nat.zero_le _, rfl, br, lh (fun _ h => absurd h (Nat.not_lt_zero _))⟩
  case round =>
   obtain ⟨k, hk, rfl, hB, HA⟩ := hrel
   by_cases hlt : k < F1.length
   ·have hlt2 : k < F2.length := by have := HL.out; omega
    obtain ⟨b, off, rfl, hb, hcx⟩ := H1.out (by omega);obtain ⟨b', off', rfl, hb', hcx'⟩ := H2.out (by omega);obtain ⟨c0, c1⟩ := hcx k hlt;obtain ⟨e0, e1⟩ := hcx' k hlt2;have d0 := (hB.cell (p := ⟨b, off + k * 2, none⟩) hb).trans c0;have d1 := (hB.cell (p := ⟨b, off + k * 2 + 1, none⟩) hb).trans c1;have f0 := (hB.cell (p := ⟨b', off' + k * 2, none⟩) hb').trans e0;have f1 := (hB.cell (p := ⟨b', off' + k * 2 + 1, none⟩) hb').trans e1;clear c0 c1 e0 e1 hcx hcx'
    by_cases q0 : (frg F1 k).1 = (frg F2 k).1
    ·by_cases q1 : (frg F1 k).2 = (frg F2 k).2
     ·have HB : Hid (∀ j, j < k + 1 → frg F1 j = frg F2 j) := lh fun j hj => by
       rcases Nat.lt_or_ge j k with l | l
       ·exact HA.out j l
       ·obtain rfl : j = k := by omega
        exact Prod.ext q0 q1
      have g0 : ((frg F1 k).1 == (frg F2 k).1) = true := beq_iff_eq.2 q0;have h0 : ((frg F1 k).1 != (frg F2 k).1) = false := bne_eq_false_iff_eq.2 q0;have g1 : ((frg F1 k).2 == (frg F2 k).2) = true := beq_iff_eq.2 q1;have h1 : ((frg F1 k).2 != (frg F2 k).2) = false := bne_eq_false_iff_eq.2 q1;clear q0 q1
      go_wp2_with fail
      go_quiet (fail)
      go_wp2
      go_roundw
      case rel => exact ⟨k + 1, by omega, by go_num, below_drewN hB _, HB⟩
      case measure => simp [intOf]; omega
     ·have H : Hid (decide (F1 = F2) = false) := lh (dF (fun e => q1 (by rw [e])))
      have g0 : ((frg F1 k).1 == (frg F2 k).1) = true := beq_iff_eq.2 q0;have h0 : ((frg F1 k).1 != (frg F2 k).1) = false := bne_eq_false_iff_eq.2 q0;have g1 : ((frg F1 k).2 == (frg F2 k).2) = false := beq_eq_false_iff_ne.2 q1;have h1 : ((frg F1 k).2 != (frg F2 k).2) = true := bne_iff_ne.2 q1;clear q0 q1
      go_wp2_with fail
      go_quiet (fail)
      go_wp2
      go_ret;exact ⟨congrArg (fun b => Ending.returned (.bool b)) H.out.symm, below_drewN hB _⟩
    ·have H : Hid (decide (F1 = F2) = false) := lh (dF (fun e => q0 (by rw [e])))
     have g0 : ((frg F1 k).1 == (frg F2 k).1) = false := beq_eq_false_iff_ne.2 q0;have h0 : ((frg F1 k).1 != (frg F2 k).1) = true := bne_iff_ne.2 q0;clear q0
     go_wp2_with fail
     go_quiet (fail)
     go_wp2
     go_ret;exact ⟨congrArg (fun b => Ending.returned (.bool b)) H.out.symm, below_drewN hB _⟩
   ·obtain rfl : k = F1.length := by omega
    have H : Hid (decide (F1 = F2) = true) := lh (dT (frg_ext F1 F2 HL.out HA.out))
    go_wp2
    go_ret;exact ⟨congrArg (fun b => Ending.returned (.bool b)) H.out.symm, hB⟩
 ·have hn : ((F1.length : Int) != (F2.length : Int)) = true := bne_iff_ne.2 (by omega)
  have H : Hid (decide (F1 = F2) = false) := lh (dF (fun e => hle (by rw [e])));clear hle
  go_enter Tryz.func17, Tryz.ntmps17
  go_wp2
  go_ret;exact ⟨congrArg (fun b => Ending.returned (.bool b)) H.out.symm, br⟩

theorem num_equal (a1 a2 : Option Addr) (F1 F2 : List (Int)) (cap1 cap2 : Nat) (w : World) (hl : F1.length ≤ 1100) (h1 : Nums w.heap.size w a1 F1) (h2 : Nums w.heap.size w a2 F2) (hl2 : F2.length ≤ 1100) :
  Calls Tryz.prog 30 #[.slice a1 F1.length cap1, .slice a2 F2.length cap2] w fun e w' => e = .returned (.bool (decide (F1 = F2))) ∧ Below w.heap.size w w' := by
 have H1 := lh h1;have H2 := lh h2;clear h1 h2
 by_cases hle : F1.length = F2.length
 ·have hn : ((F1.length : Int) != (F2.length : Int)) = false := by rw [bne_eq_false_iff_eq]; omega
  have HL := lh hle; clear hle
  go_enter Tryz.func30, Tryz.ntmps30
  go_wp2
  go_loopw [13] (fun i wr => ∃ k : Nat, k ≤ F1.length ∧ i = .int .i64 k ∧ Below w.heap.size w wr ∧ Hid (∀ j, j < k → ig F1 j = ig F2 j)) (fun i _ => F1.length - (intOf i).toNat)
  case atStart => exact ⟨0, Nat.zero_le _, rfl, br, lh (fun _ h => absurd h (Nat.not_lt_zero _))⟩
  case round =>
   obtain ⟨k, hk, rfl, hB, HA⟩ := hrel
   by_cases hlt : k < F1.length
   ·have hlt2 : k < F2.length := by have := HL.out; omega
    obtain ⟨b, off, rfl, hb, hcx⟩ := H1.out (by omega);obtain ⟨b', off', rfl, hb', hcx'⟩ := H2.out (by omega);have c0 := hcx k hlt;have e0 := hcx' k hlt2;have d0 := (hB.cell (p := ⟨b, off + k, none⟩) hb).trans c0;have f0 := (hB.cell (p := ⟨b', off' + k, none⟩) hb').trans e0;clear c0 e0 hcx hcx'
    by_cases q0 : (ig F1 k) = (ig F2 k)
    ·have HB : Hid (∀ j, j < k + 1 → ig F1 j = ig F2 j) := lh fun j hj => by
      rcases Nat.lt_or_ge j k with l | l
      ·exact HA.out j l
      ·obtain rfl : j = k := by omega
       exact q0
     have g0 : ((ig F1 k) == (ig F2 k)) = true := beq_iff_eq.2 q0;have h0 : ((ig F1 k) != (ig F2 k)) = false := bne_eq_false_iff_eq.2 q0;clear q0
     go_wp2_with fail
     go_quiet (fail)
     go_wp2
     go_roundw
     case rel => exact ⟨k + 1, by omega, by go_num, below_drewN hB _, HB⟩
     case measure => simp [intOf]; omega
    ·have H : Hid (decide (F1 = F2) = false) := lh (dF (fun e => q0 (by rw [e])))
     have g0 : ((ig F1 k) == (ig F2 k)) = false := beq_eq_false_iff_ne.2 q0;have h0 : ((ig F1 k) != (ig F2 k)) = true := bne_iff_ne.2 q0;clear q0
     go_wp2_with fail
     go_quiet (fail)
     go_wp2
     go_ret;exact ⟨congrArg (fun b => Ending.returned (.bool b)) H.out.symm, below_drewN hB _⟩
   ·obtain rfl : k = F1.length := by omega
    have H : Hid (decide (F1 = F2) = true) := lh (dT (ig_ext F1 F2 HL.out HA.out))
    go_wp2
    go_ret;exact ⟨congrArg (fun b => Ending.returned (.bool b)) H.out.symm, hB⟩
 ·have hn : ((F1.length : Int) != (F2.length : Int)) = true := bne_iff_ne.2 (by omega)
  have H : Hid (decide (F1 = F2) = false) := lh (dF (fun e => hle (by rw [e])));clear hle
  go_enter Tryz.func30, Tryz.ntmps30
  go_wp2
  go_ret;exact ⟨congrArg (fun b => Ending.returned (.bool b)) H.out.symm, br⟩

theorem str_equal (a1 a2 : Option Addr) (F1 F2 : List (ByteArray)) (cap1 cap2 : Nat) (w : World) (hl : F1.length ≤ 1100) (h1 : Strs w.heap.size w a1 F1) (h2 : Strs w.heap.size w a2 F2) (hl2 : F2.length ≤ 1100) :
  Calls Tryz.prog 31 #[.slice a1 F1.length cap1, .slice a2 F2.length cap2] w fun e w' => e = .returned (.bool (decide (F1 = F2))) ∧ Below w.heap.size w w' := by
 have H1 := lh h1;have H2 := lh h2;clear h1 h2
 by_cases hle : F1.length = F2.length
 ·have hn : ((F1.length : Int) != (F2.length : Int)) = false := by rw [bne_eq_false_iff_eq]; omega
  have HL := lh hle; clear hle
  go_enter Tryz.func31, Tryz.ntmps31
  go_wp2
  go_loopw [13] (fun i wr => ∃ k : Nat, k ≤ F1.length ∧ i = .int .i64 k ∧ Below w.heap.size w wr ∧ Hid (∀ j, j < k → sg F1 j = sg F2 j)) (fun i _ => F1.length - (intOf i).toNat)
  case atStart => exact ⟨0, Nat.zero_le _, rfl, br, lh (fun _ h => absurd h (Nat.not_lt_zero _))⟩
  case round =>
   obtain ⟨k, hk, rfl, hB, HA⟩ := hrel
   by_cases hlt : k < F1.length
   ·have hlt2 : k < F2.length := by have := HL.out; omega
    obtain ⟨b, off, rfl, hb, hcx⟩ := H1.out (by omega);obtain ⟨b', off', rfl, hb', hcx'⟩ := H2.out (by omega);have c0 := hcx k hlt;have e0 := hcx' k hlt2;have d0 := (hB.cell (p := ⟨b, off + k, none⟩) hb).trans c0;have f0 := (hB.cell (p := ⟨b', off' + k, none⟩) hb').trans e0;clear c0 e0 hcx hcx'
    by_cases q0 : (sg F1 k) = (sg F2 k)
    ·have HB : Hid (∀ j, j < k + 1 → sg F1 j = sg F2 j) := lh fun j hj => by
      rcases Nat.lt_or_ge j k with l | l
      ·exact HA.out j l
      ·obtain rfl : j = k := by omega
       exact q0
     have g0 := str_eq (sg F1 k) (sg F2 k);rw [decide_eq_true q0] at g0;clear q0
     go_wp2_with fail
     go_quiet (fail)
     go_wp2
     go_roundw
     case rel => exact ⟨k + 1, by omega, by go_num, below_drewN hB _, HB⟩
     case measure => simp [intOf]; omega
    ·have H : Hid (decide (F1 = F2) = false) := lh (dF (fun e => q0 (by rw [e])))
     have g0 := str_eq (sg F1 k) (sg F2 k);rw [decide_eq_false q0] at g0;clear q0
     go_wp2_with fail
     go_quiet (fail)
     go_wp2
     go_ret;exact ⟨congrArg (fun b => Ending.returned (.bool b)) H.out.symm, below_drewN hB _⟩
   ·obtain rfl : k = F1.length := by omega
    have H : Hid (decide (F1 = F2) = true) := lh (dT (sg_ext F1 F2 HL.out HA.out))
    go_wp2
    go_ret;exact ⟨congrArg (fun b => Ending.returned (.bool b)) H.out.symm, hB⟩
 ·have hn : ((F1.length : Int) != (F2.length : Int)) = true := bne_iff_ne.2 (by omega)
  have H : Hid (decide (F1 = F2) = false) := lh (dF (fun e => hle (by rw [e])));clear hle
  go_enter Tryz.func31, Tryz.ntmps31
  go_wp2
  go_ret;exact ⟨congrArg (fun b => Ending.returned (.bool b)) H.out.symm, br⟩
end
section
open Go.RowKit Go.Shelf
attribute [local go_sem] Oper.semAt_some
theorem rof_any (n : Int) (w : World) : Calls Tryz.prog 20 #[.int .i64 n] w fun e w' => e = .returned (.agg #[.int .i64 n, .int .i64 1]) ∧ Below w.heap.size w w' := by
 go_enter Tryz.func20, Tryz.ntmps20
 go_wp2_with fail
 refine bodyPost_ret (v := .agg #[.int .i64 n, .int .i64 1]) (by simp [results, Tryz.results20, go_sem]) rfl ⟨rfl, ?_⟩;exact below_new _ _
structure EXW (w : World) (b2 b3 b5 b6 b8 : Nat) : Prop where
 h : HouseIn w (xH (some ⟨b2, 0, none⟩) (some ⟨b3, 0, none⟩))
 s : SheetIn w (xT (some ⟨b5, 0, none⟩) (some ⟨b6, 0, none⟩))
 g : Nums w.heap.size w (some ⟨b8, 0, none⟩) [2000]
theorem EXW.grow {w w' : World} {b2 b3 b5 b6 b8 : Nat} (x : EXW w b2 b3 b5 b6 b8) (hb : Below w.heap.size w w') : EXW w' b2 b3 b5 b6 b8 := ⟨x.h.grow hb, x.s.grow hb, x.g.grow hb⟩
theorem begins_ex (w : World) {b2 b3 b5 b6 b8 : Nat} (E : EXW w b2 b3 b5 b6 b8) : Calls Tryz.prog 24 #[.agg #[.string ⟨#[104]⟩, .int .i64 5000, .slice (some ⟨b3, 0, none⟩) 1 1, .slice none 0 0], .agg #[.slice (some ⟨b6, 0, none⟩) 1 1, .slice none 0 0], .slice (some ⟨b8, 0, none⟩) 1 1] w fun e w' => Hid (∃ a c, e = .returned (.tuple #[.slice a 1 c, .int .i64 0]) ∧ Begs w'.heap.size w' a [(⟨#[113]⟩, 2000)]) ∧ Below w.heap.size w w' :=
 (begins_any (xH (some ⟨b2, 0, none⟩) (some ⟨b3, 0, none⟩)) (xT (some ⟨b5, 0, none⟩) (some ⟨b6, 0, none⟩)) _ [2000] 1 w E.h E.s E.g (by decide)).mono fun e w' z => by
  obtain ⟨hx, hb⟩ := z;obtain ⟨v, rfl, hr⟩ := hx.out;rw [x_begs] at hr;obtain ⟨a, c, rfl, _, _, _, hc⟩ := beg_of_row hr;exact ⟨lh ⟨a, c, by rw [x_planE]; rfl, hc⟩, hb⟩
theorem ends_ex (w : World) {b2 b3 b5 b6 b8 : Nat} (E : EXW w b2 b3 b5 b6 b8) : Calls Tryz.prog 18 #[.agg #[.string ⟨#[104]⟩, .int .i64 5000, .slice (some ⟨b3, 0, none⟩) 1 1, .slice none 0 0], .agg #[.slice (some ⟨b6, 0, none⟩) 1 1, .slice none 0 0], .slice (some ⟨b8, 0, none⟩) 1 1] w fun e w' => Hid (∃ a c, e = .returned (.tuple #[.slice a 1 c, .int .i64 0]) ∧ Nums w'.heap.size w' a [9000]) ∧ Below w.heap.size w w' :=
 (ends_any (xH (some ⟨b2, 0, none⟩) (some ⟨b3, 0, none⟩)) (xT (some ⟨b5, 0, none⟩) (some ⟨b6, 0, none⟩)) _ [2000] 1 w E.h E.s E.g (by decide)).mono fun e w' z => by
  obtain ⟨hx, hb⟩ := z;obtain ⟨v, rfl, hr⟩ := hx.out;rw [x_ends] at hr;obtain ⟨a, c, rfl, _, _, _, hc⟩ := num_of_row hr;exact ⟨lh ⟨a, c, by rw [x_planE]; rfl, hc⟩, hb⟩
theorem at_ex (w : World) {b2 b3 b5 b6 b8 : Nat} (E : EXW w b2 b3 b5 b6 b8) : Calls Tryz.prog 15 #[.agg #[.string ⟨#[104]⟩, .int .i64 5000, .slice (some ⟨b3, 0, none⟩) 1 1, .slice none 0 0], .agg #[.slice (some ⟨b6, 0, none⟩) 1 1, .slice none 0 0], .slice (some ⟨b8, 0, none⟩) 1 1, .int .i64 5000] w fun e w' => Hid (∃ a c, e = .returned (.tuple #[.slice a 1 c, .int .i64 0]) ∧ Frs w'.heap.size w' a [(4600, 1)]) ∧ Below w.heap.size w w' :=
 (tAt_any (xH (some ⟨b2, 0, none⟩) (some ⟨b3, 0, none⟩)) (xT (some ⟨b5, 0, none⟩) (some ⟨b6, 0, none⟩)) _ [2000] 1 5000 w E.h E.s E.g (by decide) (by decide) (fun k hk _ _ _ => by
  obtain rfl : k = 0 := one_lt hk;rw [x_planS, x_pathP];exact x_ok)).mono fun e w' z => by
  obtain ⟨hx, hb⟩ := z;obtain ⟨v, rfl, hr⟩ := hx.out;rw [x_atE] at hr ⊢;obtain ⟨a, c, rfl, _, _, _, hc⟩ := fr_of_row (hr.1 rfl);exact ⟨lh ⟨a, c, rfl, hc⟩, hb⟩
theorem path_ex (w : World) {b2 b3 b5 b6 b8 : Nat} (E : EXW w b2 b3 b5 b6 b8) : Calls Tryz.prog 12 #[.agg #[.string ⟨#[104]⟩, .int .i64 5000, .slice (some ⟨b3, 0, none⟩) 1 1, .slice none 0 0], .agg #[.slice (some ⟨b6, 0, none⟩) 1 1, .slice none 0 0], .slice (some ⟨b8, 0, none⟩) 1 1, .string ⟨#[115]⟩] w fun e w' => Hid (∃ a c, e = .returned (.tuple #[.slice a 5 c, .int .i64 0]) ∧ True) ∧ Below w.heap.size w w' :=
 (tPath_any (xH (some ⟨b2, 0, none⟩) (some ⟨b3, 0, none⟩)) (xT (some ⟨b5, 0, none⟩) (some ⟨b6, 0, none⟩)) _ [2000] 1 ⟨#[115]⟩ w E.h E.s E.g (by decide)).mono fun e w' z => by
  obtain ⟨hx, hb⟩ := z;obtain ⟨v, rfl, hr⟩ := hx.out;rw [x_pathE] at hr ⊢;obtain ⟨a, c, rfl, _, _, _, hc⟩ := pc_of_row (hr.1 rfl);exact ⟨lh ⟨a, c, rfl, trivial⟩, hb⟩
theorem beg_new1 (w : World) (L : List (ByteArray × Int)) (h : 1 = L.length) : Begs (w.alloc (.cells (begflat L).toArray 70)).heap.size (w.alloc (.cells (begflat L).toArray 70)) (some ⟨w.heap.size, 0, none⟩) L := by
 obtain ⟨a, cap, e, _, _, _, hc⟩ := beg_of_row (World.ownsRow_lit (base := 0) (e := 70) (size := 2) w (begflat L).toArray L.length (Nat.zero_le _) (by unfold maxLen; omega) (by simp [beg_len]));rw [← h] at e
 cases e
 exact hc
theorem num_new1 (w : World) (L : List (Int)) (h : 1 = L.length) : Nums (w.alloc (.cells (nflat L).toArray 3)).heap.size (w.alloc (.cells (nflat L).toArray 3)) (some ⟨w.heap.size, 0, none⟩) L := by
 obtain ⟨a, cap, e, _, _, _, hc⟩ := num_of_row (World.ownsRow_lit (base := 0) (e := 3) (size := 1) w (nflat L).toArray L.length (Nat.zero_le _) (by unfold maxLen; omega) (by simp [num_len]));rw [← h] at e
 cases e
 exact hc
theorem fr_new1 (w : World) (L : List (Int × Int)) (h : 1 = L.length) : Frs (w.alloc (.cells (frflat L).toArray 49)).heap.size (w.alloc (.cells (frflat L).toArray 49)) (some ⟨w.heap.size, 0, none⟩) L := by
 obtain ⟨a, cap, e, _, _, _, hc⟩ := fr_of_row (World.ownsRow_lit (base := 0) (e := 49) (size := 2) w (frflat L).toArray L.length (Nat.zero_le _) (by unfold maxLen; omega) (by simp [fr_len]));rw [← h] at e
 cases e
 exact hc
theorem beg_eq_ex (a1 a2 : Option Addr) (F : List (ByteArray × Int)) (c1 c2 : Nat) (w : World) (hl : 1 = F.length) (h1 : Begs w.heap.size w a1 F) (h2 : Begs w.heap.size w a2 F) :
  Calls Tryz.prog 29 #[.slice a1 1 c1, .slice a2 1 c2] w fun e w' => e = .returned (.bool true) ∧ Below w.heap.size w w' := by
 rw [hl];exact (beg_equal a1 a2 F F c1 c2 w (by omega) h1 h2 (by omega)).mono fun e w' h => by rw [decide_eq_true rfl] at h; exact h
theorem num_eq_ex (a1 a2 : Option Addr) (F : List (Int)) (c1 c2 : Nat) (w : World) (hl : 1 = F.length) (h1 : Nums w.heap.size w a1 F) (h2 : Nums w.heap.size w a2 F) :
  Calls Tryz.prog 30 #[.slice a1 1 c1, .slice a2 1 c2] w fun e w' => e = .returned (.bool true) ∧ Below w.heap.size w w' := by
 rw [hl];exact (num_equal a1 a2 F F c1 c2 w (by omega) h1 h2 (by omega)).mono fun e w' h => by rw [decide_eq_true rfl] at h; exact h
theorem fr_eq_ex (a1 a2 : Option Addr) (F : List (Int × Int)) (c1 c2 : Nat) (w : World) (hl : 1 = F.length) (h1 : Frs w.heap.size w a1 F) (h2 : Frs w.heap.size w a2 F) :
  Calls Tryz.prog 17 #[.slice a1 1 c1, .slice a2 1 c2] w fun e w' => e = .returned (.bool true) ∧ Below w.heap.size w w' := by
 rw [hl];exact (fr_equal a1 a2 F F c1 c2 w (by omega) h1 h2 (by omega)).mono fun e w' h => by rw [decide_eq_true rfl] at h; exact h
theorem boxEx {w : World} {b2 b3 b5 b6 b8 : Nat} (E : EXW w b2 b3 b5 b6 b8) :
  ∃ W0, ((w.alloc (.cells #[.string ⟨#[104]⟩, .int .i64 5000, .slice (some ⟨b3, 0, none⟩) 1 1, .slice none 0 0] 25)).alloc (.cells #[.slice (some ⟨b6, 0, none⟩) 1 1, .slice none 0 0] 29)) = W0 ∧ Hid (∀ w', Below W0.heap.size W0 w' → (w'.cell? ⟨w.heap.size, 0, none⟩ = some (.string ⟨#[104]⟩) ∧ w'.cell? ⟨w.heap.size, 1, none⟩ = some (.int .i64 5000) ∧ w'.cell? ⟨w.heap.size, 2, none⟩ = some (.slice (some ⟨b3, 0, none⟩) 1 1) ∧ w'.cell? ⟨w.heap.size, 3, none⟩ = some (.slice none 0 0)) ∧ (w'.cell? ⟨w.heap.size + 1, 0, none⟩ = some (.slice (some ⟨b6, 0, none⟩) 1 1) ∧ w'.cell? ⟨w.heap.size + 1, 1, none⟩ = some (.slice none 0 0)) ∧ EXW w' b2 b3 b5 b6 b8 ∧ Below w.heap.size w w') := by
 obtain ⟨W0, hW0, HX⟩ := boxHS2 E.h E.s E.g
 exact ⟨W0, hW0, lh fun w' z => by
  obtain ⟨a, b, c, d, g, l⟩ := HX.out w' z;exact ⟨a, b, ⟨c, d, g⟩, l⟩⟩
theorem awake_any (w : World) : Calls Tryz.prog 10 #[] w fun e w' => e = .returned (.bool true) ∧ Below w.heap.size w w' := by
 go_enter Tryz.func10, Tryz.ntmps10
 go_upto_region 2 with (go_at_call 41; (with_reducible refine (example_any _).mono ?_); rintro e w1 ⟨hx, hb1⟩; obtain ⟨b2, b3, b5, b6, b8, rfl, i1, i2, i3⟩ := hx.out; have HE := lh (EXW.mk i1 i2 i3); clear hx i1 i2 i3)
 obtain ⟨W0, hW0, HX⟩ := boxEx HE.out;clear HE
 try simp only [hW0]
 clear hW0;obtain ⟨B1, hB1⟩ := nm (w1.heap.size);obtain ⟨B2, hB2⟩ := nm (B1 + 1);have HW : Hid (∀ w', Below W0.heap.size W0 w' → Below w.heap.size w w') := lh fun w' z => hb1.trans ((HX.out w' z).2.2.2.mono hb1.size);rw [hB1, hB2] at HX;rw [hB1]
 try rw [hB2]
 clear hB1 hB2 hb1;obtain ⟨⟨a0, a1, a2, a3⟩, ⟨s0, s1⟩, -, -⟩ := HX.out _ br;have HO1 : Hid (∀ w : World, Begs (w.alloc (.cells #[.string ⟨#[113]⟩, .int .i64 2000] 70)).heap.size (w.alloc (.cells #[.string ⟨#[113]⟩, .int .i64 2000] 70)) (some ⟨w.heap.size, 0, none⟩) [(⟨#[113]⟩, 2000)]) := lh fun w => beg_new1 w [(⟨#[113]⟩, 2000)] rfl;have HO2 : Hid (∀ w : World, Nums (w.alloc (.cells #[.int .i64 9000] 3)).heap.size (w.alloc (.cells #[.int .i64 9000] 3)) (some ⟨w.heap.size, 0, none⟩) [9000]) := lh fun w => num_new1 w [9000] rfl;have HO3 : Hid (∀ w : World, Frs (w.alloc (.cells #[.int .i64 4600, .int .i64 1] 49)).heap.size (w.alloc (.cells #[.int .i64 4600, .int .i64 1] 49)) (some ⟨w.heap.size, 0, none⟩) [(4600, 1)]) := lh fun w => fr_new1 w [(4600, 1)] rfl
 go_upto_region 6 with (first
  | (go_at_call 24; (with_reducible refine (begins_ex _ (HX.out _ br).2.2.1).mono ?_); rintro e w2 ⟨hx2, hb2⟩; obtain ⟨a12, c12, rfl, f2⟩ := hx2.out; have F2 := lh f2; clear hx2 f2; obtain ⟨⟨p20, p21, p22, p23⟩, ⟨r20, r21⟩, -, -⟩ := HX.out _ hb2)
  | (go_at_call 18; (with_reducible refine (ends_ex _ (HX.out _ hb2).2.2.1).mono ?_); rintro e w3 ⟨hx3, hb3⟩; obtain ⟨a13, c13, rfl, f3⟩ := hx3.out; have F3 := lh f3; clear hx3 f3; have hq3 := hb2.trans (hb3.mono hb2.size); obtain ⟨⟨p30, p31, p32, p33⟩, ⟨r30, r31⟩, -, -⟩ := HX.out _ hq3)
  | (go_at_call 15; (with_reducible refine (at_ex _ (HX.out _ hq3).2.2.1).mono ?_); rintro e w4 ⟨hx4, hb4⟩; obtain ⟨a14, c14, rfl, f4⟩ := hx4.out; have F4 := lh f4; clear hx4 f4; have hq4 := hq3.trans (hb4.mono hq3.size); obtain ⟨⟨p40, p41, p42, p43⟩, ⟨r40, r41⟩, -, -⟩ := HX.out _ hq4)
  | (go_at_call 12; (with_reducible refine (path_ex _ (HX.out _ hq4).2.2.1).mono ?_); rintro e w5 ⟨hx5, hb5⟩; obtain ⟨a15, c15, rfl, f5⟩ := hx5.out; have F5 := lh f5; clear hx5 f5; have hq5 := hq4.trans (hb5.mono hq4.size); obtain ⟨⟨p50, p51, p52, p53⟩, ⟨r50, r51⟩, -, -⟩ := HX.out _ hq5))
 have G2 := lh (((F2.out.grow hb3).grow hb4).grow hb5);have G3 := lh ((F3.out.grow hb4).grow hb5);have G4 := lh (F4.out.grow hb5);have hB5 := HW.out _ hq5;clear F2 F3 F4 F5 a0 a1 a2 a3 s0 s1 p20 p21 p22 p23 r20 r21 p30 p31 p32 p33 r30 r31 p40 p41 p42 p43 r40 r41 p50 p51 p52 p53 r50 r51;clear hb2 hb3 hb4 hb5 hq3 hq4 hq5 HX HW
 go_wp2_with (first
  | (go_at_call 29; (with_reducible refine (beg_eq_ex _ _ [(⟨#[113]⟩, 2000)] _ _ _ rfl (G2.out.grow (below_new _ _)) (HO1.out _)).mono ?_); rintro e w6 ⟨rfl, hb6⟩; have hC6 := mono_in _ hb6; have hB6 : Below w.heap.size w w6 := hB5.trans (hC6.mono hB5.size); have G36 := lh (G3.out.grow hC6); have G46 := lh (G4.out.grow hC6))
  | (go_at_call 30; (with_reducible refine (num_eq_ex _ _ [9000] _ _ _ rfl (G36.out.grow (below_new _ _)) (HO2.out _)).mono ?_); rintro e w7 ⟨rfl, hb7⟩; have hC7 := mono_in _ hb7; have hB7 : Below w.heap.size w w7 := hB6.trans (hC7.mono hB6.size); have G47 := lh (G46.out.grow hC7))
  | (go_at_call 20; (with_reducible refine (rof_any 4600 _).mono ?_); rintro e w8 ⟨rfl, hb8⟩; have hB8 : Below w.heap.size w w8 := hB7.trans (hb8.mono hB7.size); have G48 := lh (G47.out.grow hb8))
  | (go_at_call 17; (with_reducible refine (fr_eq_ex _ _ [(4600, 1)] _ _ _ rfl (G48.out.grow (below_new _ _)) (HO3.out _)).mono ?_); rintro e w9 ⟨rfl, hb9⟩; have hB9 : Below w.heap.size w w9 := hB8.trans ((mono_in _ hb9).mono hB8.size)))
 go_ret;exact ⟨rfl, hB9⟩
theorem lawfollows_law (h : HouseR) (s : SheetR) (ga : Option Addr) (G : List Int) (gc : Nat) (ms : Int) (m0 : 0 ≤ ms) (m1 : ms ≤ 4294967295) (w : World) (hh : HouseIn0 w h) (hs : SheetIn0 w s) (hG : Nums w.heap.size w ga G) :
  Calls Tryz.prog 8 #[.agg #[.string h.name, .int .i64 h.height, .slice h.sa h.sets.length h.sc, .slice h.ra h.roofs.length h.rc], .agg #[.slice s.ca s.cues.length s.cc, .slice s.pa s.pairs.length s.pc], .slice ga G.length gc, .int .u32 ms] w fun e w' => e = .returned (.bool true) ∧ Below w.heap.size w w' := by
 obtain ⟨hb0, HX, HW⟩ := o3 hh hs hG;clear hh hs hG hb0;have nw : IntKind.i64.wrap ms = ms := IntWalk.i64_in _ (by omega)
 cases hsm : smallA h s G
 case false =>
  have HSM := lh hsm;clear hsm
  go_enter Tryz.func8, Tryz.ntmps8
  go_upto_region 1 with (fail)
  obtain ⟨W0, hW0⟩ := nm ((LTw w h s) : World);simp only [hW0] at HX HW ⊢;clear hW0;obtain ⟨B1, hB1⟩ := nm (w.heap.size);obtain ⟨B2, hB2⟩ := nm (w.heap.size + 1);rw [hB2] at HX ⊢;rw [hB1] at HX ⊢;clear hB1 hB2
  go_wp2_with (first
   | (go_at_call 10; (with_reducible refine (awake_any _).mono ?_); rintro e w1 ⟨rfl, hb1⟩; obtain ⟨⟨a0, a1, a2, a3⟩, ⟨s0, s1⟩, -, -, -⟩ := HX.out _ hb1)
   | (go_at_call 11; (with_reducible refine (lawsmall_any h s ga G _ _ (HX.out _ hb1).2.2.1 (HX.out _ hb1).2.2.2.1 (HX.out _ hb1).2.2.2.2).mono ?_); rintro e w2 ⟨rfl, hb2⟩; rw [HSM.out]; have hq2 := hb1.trans (hb2.mono hb1.size)))
  go_ret;exact ⟨rfl, HW.out _ hq2⟩
 have HSM := lh hsm;obtain ⟨z1, z2, z3⟩ := smallA_yes hsm
 have HXI : Hid (∀ w', Below (LTw w h s).heap.size (LTw w h s) w' → HouseIn w' h ∧ SheetIn w' s ∧ Nums w'.heap.size w' ga G) := lh fun w' q =>
  ⟨smallH_in (by omega) (HX.out w' q).2.2.1 z1, smallC_in (by omega) (HX.out w' q).2.2.2.1 z2, (HX.out w' q).2.2.2.2⟩
 have hcl : s.cues.length ≤ 6 := by have := z2.cues; omega
 have hgl : G.length ≤ 1000 := by omega
 clear hsm z1 z2 z3
 by_cases he : planE h s G = 0
 case neg =>
  have HN1 : Hid (begsP h s G = []) := lh (if_neg he);have HN2 : Hid (endsP h s G = []) := lh (if_neg he);obtain ⟨E, hE⟩ := nm (planE h s G);have HE := lh hE;rw [hE] at he;have g0 : (E != 0) = true := bne_iff_ne.2 he;have g1 : (E == E) = true := beq_self_eq_true _;clear he hE
  go_enter Tryz.func8, Tryz.ntmps8
  go_upto_region 1 with (fail)
  obtain ⟨W0, hW0⟩ := nm ((LTw w h s) : World);simp only [hW0] at HX HXI HW ⊢;clear hW0;obtain ⟨B1, hB1⟩ := nm (w.heap.size);obtain ⟨B2, hB2⟩ := nm (w.heap.size + 1);rw [hB2] at HX ⊢;rw [hB1] at HX ⊢;clear hB1 hB2
  go_upto_region 5 with (first
   | (go_at_call 10; (with_reducible refine (awake_any _).mono ?_); rintro e w1 ⟨rfl, hb1⟩; obtain ⟨⟨a0, a1, a2, a3⟩, ⟨s0, s1⟩, -, -, -⟩ := HX.out _ hb1)
   | (go_at_call 11; (with_reducible refine (lawsmall_any h s ga G _ _ (HX.out _ hb1).2.2.1 (HX.out _ hb1).2.2.2.1 (HX.out _ hb1).2.2.2.2).mono ?_); rintro e w2 ⟨rfl, hb2⟩; rw [HSM.out]; have hq2 := hb1.trans (hb2.mono hb1.size)))
  obtain ⟨⟨x0, x1, x2, x3⟩, ⟨y0, y1⟩, -, -, -⟩ := HX.out _ hq2;clear a0 a1 a2 a3 s0 s1
  go_upto_region 7 with (first
   | (go_at_call 24; (with_reducible refine (begins_any h s ga G gc _ (HXI.out _ hq2).1 (HXI.out _ hq2).2.1 (HXI.out _ hq2).2.2 hgl).mono ?_); rintro e w3 ⟨hx3, hb3⟩; rw [HE.out, HN1.out] at hx3; obtain ⟨v3, rfl, hr3⟩ := hx3.out; obtain ⟨a23, c23, rfl, -, -, -, hl3⟩ := beg_of_row hr3; have HL3 := lh hl3; clear hx3 hr3 hl3; have hq3 := hq2.trans (hb3.mono hq2.size); obtain ⟨⟨p30, p31, p32, p33⟩, ⟨r30, r31⟩, -, -, -⟩ := HX.out _ hq3)
   | (go_at_call 18; (with_reducible refine (ends_any h s ga G gc _ (HXI.out _ hq3).1 (HXI.out _ hq3).2.1 (HXI.out _ hq3).2.2 hgl).mono ?_); rintro e w4 ⟨hx4, hb4⟩; rw [HE.out, HN2.out] at hx4; obtain ⟨v4, rfl, hr4⟩ := hx4.out; obtain ⟨a24, c24, rfl, -, -, -, hl4⟩ := num_of_row hr4; have HL4 := lh hl4; clear hx4 hr4 hl4; have hq4 := hq3.trans (hb4.mono hq3.size); obtain ⟨⟨p40, p41, p42, p43⟩, ⟨r40, r41⟩, -, -, -⟩ := HX.out _ hq4))
  clear x0 x1 x2 x3 y0 y1 p30 p31 p32 p33 r30 r31 p40 p41 p42 p43 r40 r41
  go_wp2_with fail
  go_ret;exact ⟨rfl, HW.out _ hq4⟩
 have HPL := lh he;have HN1 : Hid (begsP h s G = begsL h s G s.cues.length) := lh (if_pos he);have HN2 : Hid (endsP h s G = endsL h s G s.cues.length) := lh (if_pos he);have HN3 : Hid (busyP h s G ms = busyL h s G ms s.cues.length) := lh (if_pos he);clear he
 go_enter Tryz.func8, Tryz.ntmps8
 go_upto_region 1 with (fail)
 obtain ⟨W0, hW0⟩ := nm ((LTw w h s) : World);simp only [hW0] at HX HXI HW ⊢;clear hW0;obtain ⟨B1, hB1⟩ := nm (w.heap.size);obtain ⟨B2, hB2⟩ := nm (w.heap.size + 1);rw [hB2] at HX ⊢;rw [hB1] at HX ⊢;clear hB1 hB2
 go_upto_region 5 with (first
  | (go_at_call 10; (with_reducible refine (awake_any _).mono ?_); rintro e w1 ⟨rfl, hb1⟩; obtain ⟨⟨a0, a1, a2, a3⟩, ⟨s0, s1⟩, -, -, -⟩ := HX.out _ hb1)
  | (go_at_call 11; (with_reducible refine (lawsmall_any h s ga G _ _ (HX.out _ hb1).2.2.1 (HX.out _ hb1).2.2.2.1 (HX.out _ hb1).2.2.2.2).mono ?_); rintro e w2 ⟨rfl, hb2⟩; rw [HSM.out]; have hq2 := hb1.trans (hb2.mono hb1.size)))
 obtain ⟨⟨x0, x1, x2, x3⟩, ⟨y0, y1⟩, -, -, -⟩ := HX.out _ hq2;clear a0 a1 a2 a3 s0 s1 hb1 hb2
 go_upto_region 10 with (first
  | (go_at_call 24; (with_reducible refine (begins_any h s ga G gc _ (HXI.out _ hq2).1 (HXI.out _ hq2).2.1 (HXI.out _ hq2).2.2 hgl).mono ?_); rintro e w3 ⟨hx3, hb3⟩; rw [HPL.out, HN1.out] at hx3; obtain ⟨v3, rfl, hr3⟩ := hx3.out; obtain ⟨a23, c23, rfl, -, -, -, hl3⟩ := beg_of_row hr3; have HL3 := lh hl3; clear hx3 hr3 hl3; have hq3 := hq2.trans (hb3.mono hq2.size); obtain ⟨⟨p30, p31, p32, p33⟩, ⟨r30, r31⟩, -, -, -⟩ := HX.out _ hq3)
  | (go_at_call 18; (with_reducible refine (ends_any h s ga G gc _ (HXI.out _ hq3).1 (HXI.out _ hq3).2.1 (HXI.out _ hq3).2.2 hgl).mono ?_); rintro e w4 ⟨hx4, hb4⟩; rw [HPL.out, HN2.out] at hx4; obtain ⟨v4, rfl, hr4⟩ := hx4.out; obtain ⟨a24, c24, rfl, -, -, -, hl4⟩ := num_of_row hr4; have HL4 := lh hl4; clear hx4 hr4 hl4; have hq4 := hq3.trans (hb4.mono hq3.size); obtain ⟨⟨p40, p41, p42, p43⟩, ⟨r40, r41⟩, -, -, -⟩ := HX.out _ hq4)
  | (go_at_call 25; (with_reducible refine (busy_any ms m0 (by omega) h s ga G gc _ (HXI.out _ hq4).1 (HXI.out _ hq4).2.1 (HXI.out _ hq4).2.2 hgl).mono ?_); rintro e w5 ⟨hx5, hb5⟩; rw [HPL.out, HN3.out] at hx5; obtain ⟨v5, rfl, hr5⟩ := hx5.out; obtain ⟨a25, c25, rfl, -, -, -, hl5⟩ := str_of_row hr5; have HL5 := lh hl5; clear hx5 hr5 hl5; have hq5 := hq4.trans (hb5.mono hq4.size)))
 clear x0 x1 x2 x3 y0 y1 p30 p31 p32 p33 r30 r31 p40 p41 p42 p43 r40 r41
 have HXX : Hid (∀ w', Below w5.heap.size w5 w' → Below w.heap.size w w' ∧ SheetAt w' B2 s ∧ SheetIn w' s ∧ Nums w'.heap.size w' ga G ∧ Begs w'.heap.size w' a23 (begsL h s G s.cues.length) ∧ Nums w'.heap.size w' a24 (endsL h s G s.cues.length) ∧ Strs w'.heap.size w' a25 (busyL h s G ms s.cues.length)) := lh fun w' z => by
  have y := hq5.trans (z.mono hq5.size);exact ⟨HW.out w' y, (HX.out w' y).2.1, (HXI.out w' y).2.1, (HXI.out w' y).2.2, ((HL3.out.grow hb4).grow hb5).grow z, (HL4.out.grow hb5).grow z, HL5.out.grow z⟩
 clear HX HXI HW HL3 HL4 HL5 hb3 hb4 hb5 hq2 hq3 hq4 hq5;obtain ⟨LC, hLC⟩ := nm (busyL h s G ms s.cues.length);have HLC := lh hLC;simp only [begsL_len, endsL_len];rw [hLC] at HXX ⊢;clear hLC;generalize w5 = W2 at *;obtain ⟨n₂, hn2⟩ := nm (W2.heap.size);rw [hn2] at HXX;have hB2 : Below n₂ W2 W2 := by rw [← hn2]; exact br
 have hnn : n₂ ≤ W2.heap.size := by omega
 have HBN : Hid (w.heap.size ≤ n₂) := lh (by have := (HXX.out _ hB2).1.size; omega);clear hn2;obtain ⟨ca, hca⟩ := nm (s.ca);have HCA := lh hca;obtain ⟨-, ⟨s0, s1⟩, -⟩ := HXX.out _ hB2;rw [hca] at s0;clear hca
 go_upto_region 15 with (fail)
 clear s0 s1
 go_loopw [15, 16, 17, 18, 19, 20, 90] (fun v15 v16 _ _ _ _ iv wr => ∃ (k : Nat), iv = .int .i64 k ∧ k ≤ s.cues.length ∧ v15 = .int .i64 ((manTo s.cues k : Nat) : Int) ∧ Below n₂ W2 wr ∧ n₂ ≤ wr.heap.size ∧ Hid (wr.ownsRow n₂ 9 1 v16 (busyL h s G ms k).length (sflat (busyL h s G ms k)))) (fun _ _ _ _ _ _ iv _ => s.cues.length - (intOf iv).toNat)
 case atStart => exact ⟨0, rfl, Nat.zero_le _, rfl, hB2, hnn, lh (World.ownsRow_nil _ _ _ _)⟩
 case round =>
  clear hB2 hnn;obtain ⟨k, rfl, hk, rfl, hB, hnw, HR⟩ := hrel
  by_cases hlt : k < s.cues.length
  ·obtain ⟨-, -, hsi, -⟩ := HXX.out _ hB
   obtain ⟨b, off, ha, hb, hc⟩ := hsi.lies (by omega);rw [HCA.out] at ha;subst ha;obtain ⟨d0, d1, d2, d3, d4, d5, d6⟩ := hc k hlt;obtain ⟨ok, po⟩ := plan_sheet HPL.out;have q1 := po.lens k hlt;have q2 := po.starts k hlt;have HYES := lh fun r => busyL_yes (h := h) (s := s) (G := G) (ms := ms) (n := k) r;have HNO := lh fun r => busyL_no (h := h) (s := s) (G := G) (ms := ms) (n := k) r;have HMA := lh fun r => start_man HPL.out hlt r;have HOF := lh fun r => start_off HPL.out hlt r;have HMY := lh fun r => manTo_yes (L := s.cues) (k := k) r;have HMN := lh fun r => manTo_no (L := s.cues) (k := k) r;have HBK := lh (begs_at h s G s.cues.length k hlt);have HEK := lh (ends_at h s G s.cues.length k hlt);have HQL := lh (ok.each k hlt).1.1.link;have HQD := lh (ok.each k hlt).1.1.delay;obtain ⟨q, hq⟩ := nm (cg s.cues k);rw [hq] at d0 d1 d2 d3 d4 d5 d6 HYES HMA HOF HMY HMN HBK HQL HQD;have hRD : Runs (planS h s G) (planN h s) ms k ↔ ig (planS h s G) k ≤ ms ∧ ms < ig (planS h s G) k + ig (planN h s) k := Iff.rfl;obtain ⟨x, hx⟩ := nm (ig (planS h s G) k);obtain ⟨z, hz⟩ := nm (ig (planS h s G) k + ig (planN h s) k);have hxz : x ≤ z ∧ 0 ≤ x ∧ z ≤ 1099511627776 := by omega
   rw [hz, hx] at hRD;rw [hx] at HMA HOF HBK;rw [hz] at HEK;have HRD := lh hRD;have HXZ := lh hxz;have HLE := lh (busyL_len h s G ms k);clear hsi hc hq hx hz hRD q1 q2 ok po;have hB3 := hB.alloc hnw (LCu q);have hbn := below_new wr (LCu q);have HC3 := CueAt.new wr q 86 _ rfl;have hn3 : n₂ ≤ (wr.alloc (LCu q)).heap.size := by simp; omega
   have HR3 := lh (ownsRow_below HR.out hbn);have hob := fun j hj => (HR.out.lt j hj).2;clear hxz
   go_upto_region 17 with (fail)
   clear d0 d1 d2 d3 d4 d5 d6 HR hbn hB hnw hb;generalize wr.alloc (LCu q) = W3 at *;obtain ⟨B12, hB12⟩ := nm (wr.heap.size);rw [hB12] at HC3 hob ⊢;have HOB : Hid (some B12 ≠ u16.ownBlock) := lh fun e => by have := hob _ e.symm; omega
   clear hB12 hob;have hn3' : ∀ n, n₂ ≤ (W3.drewN n).heap.size := fun _ => hn3;obtain ⟨p0, p1, p2, p3, p4, p5, p6⟩ := id HC3;obtain ⟨-, -, -, -, hbe, hen, -⟩ := HXX.out _ hB3;obtain ⟨bb, bo, eb, -, hbx⟩ := hbe (by rw [begsL_len]; omega)
   cases eb
   obtain ⟨lb, lo, el, -, hlx⟩ := hen (by rw [endsL_len]; omega)
   cases el
   clear hbe hen hbx hlx
   have HF : Hid (∀ w', Below n₂ W2 w' → w'.cell? ⟨bb, bo + k * 2, none⟩ = some (.string q.name) ∧ w'.cell? ⟨bb, bo + k * 2 + 1, none⟩ = some (.int .i64 x) ∧ w'.cell? ⟨lb, lo + k, none⟩ = some (.int .i64 z)) := lh fun w' y => by
    obtain ⟨-, -, -, -, hbe, hen, -⟩ := HXX.out _ y;obtain ⟨bb', bo', eb, -, hbx⟩ := hbe (by rw [begsL_len]; omega)
    cases eb
    obtain ⟨lb', lo', el, -, hlx⟩ := hen (by rw [endsL_len]; omega)
    cases el
    obtain ⟨x0, x1⟩ := hbx k (by rw [begsL_len]; exact hlt);have x2 := hlx k (by rw [endsL_len]; exact hlt);rw [HBK.out] at x0 x1;rw [HEK.out] at x2;exact ⟨x0, x1, x2⟩
   obtain ⟨x0, x1, x2⟩ := HF.out _ hB3;have g1 : (q.name.toList == q.name.toList) = true := (str_eq q.name q.name).trans (decide_eq_true rfl);have g2 : (q.name.toList != q.name.toList) = false := by show (!(q.name.toList == q.name.toList)) = false; rw [g1]; rfl
   have g3 : decide (z < x) = false := dF (by have := HXZ.out; omega)
   go_upto_region 19 with (go_quiet (fail))
   have hbq := below_drewN (Below.refl W3.heap.size W3) nq;have hB4 := hB3.trans (hbq.mono hn3);have hn4 : n₂ ≤ (W3.drewN nq).heap.size := hn3;have HR4 := lh (ownsRow_below HR3.out hbq);have HC4 := lh (HC3.carry hbq);clear hbq p0 p1 p2 p3 p4 p5 p6 x0 x1 x2 g1 g2 g3 HC3 HR3 hB3 hn3 hn3';generalize W3.drewN nq = W4 at *
   go_cut [131] (fun v wx => v = .bool (decide (x ≤ ms ∧ ms < z)) ∧ W4 = wx)
   case first =>
    obtain ⟨x0, x1, x2⟩ := HF.out _ hB4
    by_cases r1 : x ≤ ms
    ·have b1 : decide (x ≤ ms) = true := decide_eq_true r1
     by_cases r2 : ms < z
     ·have b2 : decide (ms < z) = true := decide_eq_true r2
      have HD := lh (dT (show x ≤ ms ∧ ms < z from ⟨r1, r2⟩));clear r1 r2
      go_wp2_with fail
      go_meet
      exact ⟨by rw [HD.out], rfl⟩
     ·have b2 : decide (ms < z) = false := decide_eq_false r2
      have HD := lh (dF (show ¬ (x ≤ ms ∧ ms < z) from fun e => r2 e.2));clear r1 r2
      go_wp2_with fail
      go_meet
      exact ⟨by rw [HD.out], rfl⟩
    ·have b1 : decide (x ≤ ms) = false := decide_eq_false r1
     have HD := lh (dF (show ¬ (x ≤ ms ∧ ms < z) from fun e => r1 e.1));clear r1
     go_wp2_with fail
     go_meet
     exact ⟨by rw [HD.out], rfl⟩
   case rest =>
   obtain ⟨rfl, rfl⟩ := hcut
   go_upto_if 131 with (fail)
   go_cut [16] (fun v wx => Below n₂ W2 wx ∧ n₂ ≤ wx.heap.size ∧ Hid (wx.ownsRow n₂ 9 1 v (busyL h s G ms (k + 1)).length (sflat (busyL h s G ms (k + 1)))) ∧ Hid (CueAt wx B12 q))
   case first =>
    by_cases r : x ≤ ms ∧ ms < z
    ·rw [decide_eq_true r]
     have HSN := lh (HYES.out (HRD.out.2 r));clear r;have c0 := HC4.out.1;have hl0 : B12 < W4.heap.size := wl c0;have hbx := below_new W4 (.cells #[.string q.name] 9);have HO8 := lh (ownsRow_below HR4.out hbx);have HC8 := lh (HC4.out.carry hbx);have hB8 := hB4.alloc hn4 (.cells #[.string q.name] 9);have hn8 : n₂ ≤ (W4.alloc (.cells #[.string q.name] 9)).heap.size := by simp; omega
     have hkl : (busyL h s G ms k).length ≤ 1000000 := by have := HLE.out; omega
     have hc8 : (W4.alloc (.cells #[.string q.name] 9)).cell? ⟨W4.heap.size, 0, none⟩ = some (.string q.name) := by simp
     clear hbx
     go_wp2_with (at_builtin; refine str_append rfl _ _ rfl n₂ _ (busyL h s G ms k) rfl HO8.out _ q.name rfl hc8 hkl hn8 ?_; intro v2 w8 hown8 hg8; have HO9 := lh hown8; have HC9 := lh (cueAt_grown HC8.out hg8 HOB.out); have hB9 := hB8.grown hg8 (by omega) (fun j hj => (HO8.out.lt _ hj).1); have hn9 := Nat.le_trans hn8 hg8.size; clear hown8 hg8)
     go_meet
     exact ⟨hB9, hn9, lh (by rw [HSN.out]; exact HO9.out), HC9⟩
    ·rw [decide_eq_false r]
     have HSN := lh (HNO.out fun e => r (HRD.out.1 e));clear r
     go_wp2_with fail
     go_meet
     exact ⟨hB4, hn4, lh (by rw [HSN.out]; exact HR4.out), HC4⟩
   case rest =>
   obtain ⟨hB5, hn5, HR5, HC5⟩ := hcut;generalize wc = W5 at *;clear hB4 hn4 HR4 HC4 HOB;obtain ⟨-, x1, -⟩ := HF.out _ hB5;obtain ⟨p0, p1, p2, p3, p4, p5, p6⟩ := HC5.out;obtain ⟨-, ⟨s0, s1⟩, -⟩ := HXX.out _ hB5;rw [HCA.out] at s0;rcases HQL.out with hl | hl | hl
   ·obtain ⟨hxe, hml⟩ := HMA.out hl
    have HMY' := lh (HMY.out hl);have l1 : (q.link == 1) = true := by rw [hl]; rfl
    obtain ⟨m, hm⟩ := nm (manTo s.cues k);rw [hm] at hxe hml HMY';rw [hm];obtain ⟨-, -, -, hga, -⟩ := HXX.out _ hB5;obtain ⟨gb, gf, rfl, -, hgx⟩ := hga (by omega);have y1 := hgx m hml;obtain ⟨y, hy⟩ := nm (ig G m);rw [hy] at y1 hxe;have hsum : IntKind.i64.wrap (y + q.delay) = x := by rw [← hxe]; exact IntWalk.i64_in _ (by have := HXZ.out; omega)
    have hm1 : IntKind.i64.wrap ((m : Int) + 1) = ((m + 1 : Nat) : Int) := by rw [IntWalk.i64_in _ (by omega)]; rfl
    have k1 : ((m : Int) == (G.length : Int)) = false := beq_eq_false_iff_ne.2 (by omega);have k3 : (x != x) = false := bne_self_eq_false _;have hn5' : ∀ n, n₂ ≤ (W5.drewN n).heap.size := fun _ => hn5;clear hga hgx hxe hy hl hm
    go_upto_region 33 with (fail)
    go_upto_region 35 with (go_quiet (fail))
    have hbz := below_drewN (Below.refl W5.heap.size W5) nq;have HRZ := lh (ownsRow_below HR5.out hbz);have hBZ := hB5.trans (hbz.mono hn5);have hnZ : n₂ ≤ (W5.drewN nq).heap.size := hn5;clear hbz;generalize W5.drewN nq = WZ at *
    go_wp2_with fail
    go_roundw
    case rel => exact ⟨k + 1, by go_num, by omega, by rw [HMY'.out]; rfl, hBZ, hnZ, HRZ⟩
    case measure => simp [intOf]; omega
   ·obtain ⟨f, hf, hfi, hxe⟩ := HOF.out (by rw [hl]; decide)
    have HMN' := lh (HMN.out (by rw [hl]; decide));rw [hl, if_pos rfl] at hxe;have l1 : (q.link == 1) = false := by rw [hl]; rfl
    have l2 : (q.link == 2) = true := by rw [hl]; rfl
    have HFI := lh hfi;have HXE := lh hxe;clear hl hfi hxe
    go_upto_region 28 with (go_at_call 32; (with_reducible refine (rcfind_any (some ⟨b, off, none⟩) s.cues s.cc (.slice s.pa s.pairs.length s.pc) q.after _ (by omega) (by rw [← HCA.out]; exact (HXX.out _ hB5).2.2.1.lies)).mono ?_); rintro e w6 ⟨rfl, hb6⟩; rw [HFI.out]; have hB6 := hB5.trans (hb6.mono hn5); have hn6 := Nat.le_trans hn5 hb6.size; have HR6 := lh (ownsRow_below HR5.out hb6); have HC6 := lh (HC5.out.carry hb6))
    clear p0 p1 p2 p3 p4 p5 p6 s0 s1 x1 hb6;obtain ⟨p0, p1, p2, p3, p4, p5, p6⟩ := HC6.out;obtain ⟨-, x1, -⟩ := HF.out _ hB6;have HBF := lh (begs_at h s G s.cues.length f (by omega));have HEF := lh (ends_at h s G s.cues.length f (by omega));obtain ⟨-, -, -, -, hbe, hen, -⟩ := HXX.out _ hB6;obtain ⟨bb', bo', eb, -, hbx⟩ := hbe (by rw [begsL_len]; omega)
    cases eb
    obtain ⟨lb', lo', el, -, hlx⟩ := hen (by rw [endsL_len]; omega)
    cases el
    obtain ⟨-, y1⟩ := hbx f (by rw [begsL_len]; omega);have y2 := hlx f (by rw [endsL_len]; omega);rw [HBF.out] at y1;rw [HEF.out] at y2
    dsimp only at y1
    obtain ⟨xf, hxf⟩ := nm (ig (planS h s G) f);obtain ⟨zf, hzf⟩ := nm (ig (planS h s G) f + ig (planN h s) f);rw [hzf] at HXE;rw [hxf] at y1;rw [hzf] at y2;have hsum : IntKind.i64.wrap (zf + q.delay) = x := by rw [← HXE.out]; exact IntWalk.i64_in _ (by have := HXE.out; have := HXZ.out; omega)
    have k1 : decide ((f : Int) < 0) = false := dF (by omega);have k2 : decide ((k : Int) ≤ (f : Int)) = false := dF (by omega);have k3 : (x != x) = false := bne_self_eq_false _;have hfl : f < s.cues.length := by omega
    have hn6' : ∀ n, n₂ ≤ (w6.drewN n).heap.size := fun _ => hn6;clear hbe hen hbx hlx hxf hzf
    go_upto_region 33 with (fail)
    go_upto_region 35 with (go_quiet (fail))
    have hbz := below_drewN (Below.refl w6.heap.size w6) nq;have HRZ := lh (ownsRow_below HR6.out hbz);have hBZ := hB6.trans (hbz.mono hn6);have hnZ : n₂ ≤ (w6.drewN nq).heap.size := hn6;clear hbz;generalize w6.drewN nq = WZ at *
    go_wp2_with fail
    go_roundw
    case rel => exact ⟨k + 1, by go_num, by omega, by rw [HMN'.out], hBZ, hnZ, HRZ⟩
    case measure => simp [intOf]; omega
   ·obtain ⟨f, hf, hfi, hxe⟩ := HOF.out (by rw [hl]; decide)
    have HMN' := lh (HMN.out (by rw [hl]; decide));rw [hl, if_neg (by decide)] at hxe;have l1 : (q.link == 1) = false := by rw [hl]; rfl
    have l2 : (q.link == 2) = false := by rw [hl]; rfl
    have HFI := lh hfi;have HXE := lh hxe;clear hl hfi hxe
    go_upto_region 28 with (go_at_call 32; (with_reducible refine (rcfind_any (some ⟨b, off, none⟩) s.cues s.cc (.slice s.pa s.pairs.length s.pc) q.after _ (by omega) (by rw [← HCA.out]; exact (HXX.out _ hB5).2.2.1.lies)).mono ?_); rintro e w6 ⟨rfl, hb6⟩; rw [HFI.out]; have hB6 := hB5.trans (hb6.mono hn5); have hn6 := Nat.le_trans hn5 hb6.size; have HR6 := lh (ownsRow_below HR5.out hb6); have HC6 := lh (HC5.out.carry hb6))
    clear p0 p1 p2 p3 p4 p5 p6 s0 s1 x1 hb6;obtain ⟨p0, p1, p2, p3, p4, p5, p6⟩ := HC6.out;obtain ⟨-, x1, -⟩ := HF.out _ hB6;have HBF := lh (begs_at h s G s.cues.length f (by omega));have HEF := lh (ends_at h s G s.cues.length f (by omega));obtain ⟨-, -, -, -, hbe, hen, -⟩ := HXX.out _ hB6;obtain ⟨bb', bo', eb, -, hbx⟩ := hbe (by rw [begsL_len]; omega)
    cases eb
    obtain ⟨lb', lo', el, -, hlx⟩ := hen (by rw [endsL_len]; omega)
    cases el
    obtain ⟨-, y1⟩ := hbx f (by rw [begsL_len]; omega);have y2 := hlx f (by rw [endsL_len]; omega);rw [HBF.out] at y1;rw [HEF.out] at y2
    dsimp only at y1
    obtain ⟨xf, hxf⟩ := nm (ig (planS h s G) f);obtain ⟨zf, hzf⟩ := nm (ig (planS h s G) f + ig (planN h s) f);rw [hxf] at HXE;rw [hxf] at y1;rw [hzf] at y2;have hsum : IntKind.i64.wrap (xf + q.delay) = x := by rw [← HXE.out]; exact IntWalk.i64_in _ (by have := HXE.out; have := HXZ.out; omega)
    have k1 : decide ((f : Int) < 0) = false := dF (by omega);have k2 : decide ((k : Int) ≤ (f : Int)) = false := dF (by omega);have k3 : (x != x) = false := bne_self_eq_false _;have hfl : f < s.cues.length := by omega
    have hn6' : ∀ n, n₂ ≤ (w6.drewN n).heap.size := fun _ => hn6;clear hbe hen hbx hlx hxf hzf
    go_upto_region 33 with (fail)
    go_upto_region 35 with (go_quiet (fail))
    have hbz := below_drewN (Below.refl w6.heap.size w6) nq;have HRZ := lh (ownsRow_below HR6.out hbz);have hBZ := hB6.trans (hbz.mono hn6);have hnZ : n₂ ≤ (w6.drewN nq).heap.size := hn6;clear hbz;generalize w6.drewN nq = WZ at *
    go_wp2_with fail
    go_roundw
    case rel => exact ⟨k + 1, by go_num, by omega, by rw [HMN'.out], hBZ, hnZ, HRZ⟩
    case measure => simp [intOf]; omega
  ·obtain rfl : k = s.cues.length := by omega
   have hmg := (plan_sheet HPL.out).2.lenG;rw [← hmg];have g1 : ((G.length : Int) == (G.length : Int)) = true := beq_self_eq_true _;have hr := HR.out;rw [HLC.out] at hr;obtain ⟨a9, c9, rfl, -, -, -, hl9⟩ := str_of_row hr;have HL9 := lh hl9;have HLL : Hid (LC.length ≤ 1100) := lh (by have := busyL_len h s G ms s.cues.length; rw [HLC.out] at this; omega);clear hmg hr hl9 HR
   go_wp2_with (go_at_call 31; (with_reducible refine (str_equal _ _ LC LC _ _ _ HLL.out (HXX.out _ hB).2.2.2.2.2.2 HL9.out HLL.out).mono ?_); rintro e w9 ⟨rfl, hb9⟩; rw [decide_eq_true rfl]; have hB9 := hB.trans (hb9.mono hnw))
   go_ret;exact ⟨rfl, (HXX.out _ hB9).1⟩
end
end Go.Proofs.YtebofaenlhhkaaaGreat
