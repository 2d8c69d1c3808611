/-
  THE WALK of the reference's Small of houses.
-/
import Derived.Laws.AppendOwnNone
import Derived.Test.YtlnodjcmdnmnlaaGreatV16
namespace Go.Proofs.YtlnodjcmdnmnlaaGreat
set_option maxRecDepth 100000
set_option linter.unusedSimpArgs false
set_option maxHeartbeats 80000000
section
open Go.RowKit Go.Shelf
attribute [local go_sem] Oper.semAt_some
def SmallH (h : HouseR) (most : Int) : Prop := (h.sets.length : Int) ≤ most ∧ (h.roofs.length : Int) ≤ most + 10 ∧ h.name.size ≤ 60 ∧ (∀ i, i < h.sets.length → smallB (hg h.sets i) 8 = true) ∧ ∀ i, i < h.roofs.length → (rg h.roofs i).name.size ≤ 60
noncomputable def smallHB (h : HouseR) (most : Int) : Bool := @decide (SmallH h most) (Classical.propDecidable _)
theorem smallH_iff {h : HouseR} {most : Int} : smallHB h most = true ↔ SmallH h most := @decide_eq_true_iff (SmallH h most) (Classical.propDecidable _)
theorem smallH_no {h : HouseR} {most : Int} (n : ¬ SmallH h most) : smallHB h most = false := by
 cases e : smallHB h most
 ·rfl
 ·exact absurd (smallH_iff.1 e) n
theorem smallH_in {w : World} {h : HouseR} {most : Int} (hm : most ≤ 900) (x : HouseIn0 w h) (s : SmallH h most) : HouseIn w h :=
 ⟨x, fun i hi => small_in (x.each i hi) (s.2.2.2.1 i hi), by have := s.1; omega, by have := s.2.1; omega⟩
theorem smallH_any (h : HouseR) (most : Int) (m0 : 0 ≤ most) (m1 : most ≤ 900) (w : World) (hh : HouseIn0 w h) :
  Calls Tryz.prog 18 #[.agg #[.string h.name, .int .i64 h.height, .slice h.sa h.sets.length h.sc, .slice h.ra h.roofs.length h.rc], .int .i64 most] w fun e w' => e = .returned (.bool (smallHB h most)) ∧ Below w.heap.size w w' := by
 have HH := lh hh;have hcap := hh.scap;have hrcap := hh.rcap;have hat := HouseAt.new w h 25;obtain ⟨sa, hsa⟩ := nm (h.sa);obtain ⟨ra, hra⟩ := nm (h.ra);have HSA := lh hsa;have HRA := lh hra;rw [hsa, hra] at hat ⊢;have HAT := lh hat;have hW0 := below_new w (.cells #[.string h.name, .int .i64 h.height, .slice sa h.sets.length h.sc, .slice ra h.roofs.length h.rc] 25);have mw : IntKind.i64.wrap (most + 10) = most + 10 := IntWalk.i64_in _ (by omega);clear hh hat hsa hra
 cases h1 : decide (most < (h.sets.length : Int))
 case true =>
  have H1 := lh h1;have HZ := lh (smallH_no (h := h) (most := most) (fun q => by have := q.1; have e := of_decide_eq_true H1.out; omega))
  go_enter Tryz.func18, Tryz.ntmps18
  go_upto_region 1 with (fail)
  generalize w.alloc (.cells #[.string h.name, .int .i64 h.height, .slice sa h.sets.length h.sc, .slice ra h.roofs.length h.rc] 25) = W0 at *;obtain ⟨k0, k1, k2, k3⟩ := HAT.out;rw [HSA.out] at k2;rw [HRA.out] at k3
  go_wp2_with fail
  go_ret;exact ⟨ret_bool HZ.out.symm, hW0⟩
 have H1 := lh h1
 cases h2 : decide (most + 10 < (h.roofs.length : Int))
 case true =>
  have H2 := lh h2;have HZ := lh (smallH_no (h := h) (most := most) (fun q => by have := q.2.1; have e := of_decide_eq_true H2.out; omega))
  go_enter Tryz.func18, Tryz.ntmps18
  go_upto_region 1 with (fail)
  generalize w.alloc (.cells #[.string h.name, .int .i64 h.height, .slice sa h.sets.length h.sc, .slice ra h.roofs.length h.rc] 25) = W0 at *;obtain ⟨k0, k1, k2, k3⟩ := HAT.out;rw [HSA.out] at k2;rw [HRA.out] at k3
  go_wp2_with fail
  go_ret;exact ⟨ret_bool HZ.out.symm, hW0⟩
 have H2 := lh h2
 cases h3 : decide ((60 : Int) < (h.name.size : Int))
 case true =>
  have H3 := lh h3;have HZ := lh (smallH_no (h := h) (most := most) (fun q => by have := q.2.2.1; have e := of_decide_eq_true H3.out; omega))
  go_enter Tryz.func18, Tryz.ntmps18
  go_upto_region 1 with (fail)
  generalize w.alloc (.cells #[.string h.name, .int .i64 h.height, .slice sa h.sets.length h.sc, .slice ra h.roofs.length h.rc] 25) = W0 at *;obtain ⟨k0, k1, k2, k3⟩ := HAT.out;rw [HSA.out] at k2;rw [HRA.out] at k3
  go_wp2_with fail
  go_ret;exact ⟨ret_bool HZ.out.symm, hW0⟩
 have H3 := lh h3;have hsl : h.sets.length ≤ 900 := by have := of_decide_eq_false H1.out; omega
 have hrl : h.roofs.length ≤ 910 := by have := of_decide_eq_false H2.out; omega
 go_enter Tryz.func18, Tryz.ntmps18
 go_upto_region 1 with (fail)
 generalize w.alloc (.cells #[.string h.name, .int .i64 h.height, .slice sa h.sets.length h.sc, .slice ra h.roofs.length h.rc] 25) = W0 at *;obtain ⟨k0, k1, k2, k3⟩ := HAT.out;rw [HSA.out] at k2;rw [HRA.out] at k3
 go_wp2_with fail
 have hz : w.heap.size < W0.heap.size := wl k0;clear k0 k1 k2 k3 h1 h2 h3
 go_loopw [5] (fun i wr => ∃ k : Nat, k ≤ h.sets.length ∧ i = .int .i64 k ∧ Hid (∀ j, j < k → smallB (hg h.sets j) 8 = true) ∧ Below W0.heap.size W0 wr) (fun i _ => h.sets.length - (intOf i).toNat)
 case atStart => exact ⟨0, Nat.zero_le _, rfl, lh (fun _ h => absurd h (Nat.not_lt_zero _)), br⟩
 case round =>
  obtain ⟨k, hk, rfl, HO, hB⟩ := hrel;have HAW := lh (HAT.out.carry hB)
  by_cases hlt : k < h.sets.length
  ·have HHR := lh (HH.out.grow (hW0.trans (hB.mono hW0.size)))
   obtain ⟨b, off, esa, hb, hc⟩ := HHR.out.sets (by omega);obtain rfl : sa = some ⟨b, off, none⟩ := HSA.out.symm.trans esa;have HSET := lh (HHR.out.each k hlt);obtain ⟨c0, c1, c2, c3, c4, c5, c6, c7, c8, c9, c10, c11, c12⟩ := hc k hlt;obtain ⟨k0, k1, k2, k3⟩ := HAW.out;rw [HSA.out] at k2;rw [HRA.out] at k3;have i0 : 0 ≤ (k : Int) := by omega
   have i1 : (k : Int) < (h.sets.length : Int) := by omega
   have s1 : IntKind.i64.wrap ((k : Int) + 1) = (k : Int) + 1 := IntWalk.i64_in _ (by omega);have HN : Hid (smallB (hg h.sets k) 8 = false → smallHB h most = false) := lh fun e => smallH_no fun q => by have := q.2.2.2.1 k hlt; rw [e] at this; cases this
   have HO2 : Hid (smallB (hg h.sets k) 8 = true → ∀ j, j < k + 1 → smallB (hg h.sets j) 8 = true) := lh fun q j hj => by
    rcases Nat.lt_or_eq_of_le (Nat.le_of_lt_succ hj) with l | l
    ·exact HO.out j l
    ·subst l; exact q
   generalize hg h.sets k = x at *;have HBV := lh (small_any x 8 wr HSET.out);clear hc HO esa
   cases h6 : smallB x 8
   ·have HZ := lh (HN.out h6)
    rw [h6] at HBV;clear h6
    go_wp2_with (go_at_call 33; (with_reducible refine HBV.out.mono ?_); rintro e w3 ⟨rfl, hb3⟩)
    go_ret;exact ⟨ret_bool HZ.out.symm, hW0.trans ((hB.trans (hb3.mono hB.size)).mono hW0.size)⟩
   ·have HY := lh (HO2.out h6)
    rw [h6] at HBV;clear h6
    go_wp2_with (go_at_call 33; (with_reducible refine HBV.out.mono ?_); rintro e w3 ⟨rfl, hb3⟩)
    go_roundw
    case rel => exact ⟨k + 1, by omega, by go_num, HY, hB.trans (hb3.mono hB.size)⟩
    case measure => simp [intOf]; omega
  ·obtain rfl : k = h.sets.length := by omega
   have HS := lh HO.out;have HBQ := lh hB;obtain ⟨k0, k1, k2, k3⟩ := HAW.out;rw [HSA.out] at k2;rw [HRA.out] at k3;clear HO hB
   go_wp2_with fail
   clear k0 k1 k2 k3
   go_loopw [6] (fun i wx => ∃ k : Nat, k ≤ h.roofs.length ∧ i = .int .i64 k ∧ Hid (∀ j, j < k → (rg h.roofs j).name.size ≤ 60) ∧ Below wr.heap.size wr wx) (fun i _ => h.roofs.length - (intOf i).toNat)
   case atStart => exact ⟨0, Nat.zero_le _, rfl, lh (fun _ h => absurd h (Nat.not_lt_zero _)), br⟩
   case round =>
    obtain ⟨k, hk, rfl, HO, hB⟩ := hrel;have HAX := lh (HAW.out.carry hB);obtain ⟨k0, k1, k2, k3⟩ := HAX.out;rw [HSA.out] at k2;rw [HRA.out] at k3
    by_cases hlt : k < h.roofs.length
    ·have hBW := hW0.trans ((HBQ.out.trans (hB.mono HBQ.out.size)).mono hW0.size)
     have HHR := lh (HH.out.grow hBW);obtain ⟨b, off, era, hb, hc⟩ := HHR.out.roofs (by omega);obtain rfl : ra = some ⟨b, off, none⟩ := HRA.out.symm.trans era;obtain ⟨c0, c1, c2, c3⟩ := hc k hlt;have i0 : 0 ≤ (k : Int) := by omega
     have i1 : (k : Int) < (h.roofs.length : Int) := by omega
     have s1 : IntKind.i64.wrap ((k : Int) + 1) = (k : Int) + 1 := IntWalk.i64_in _ (by omega);clear hc era
     by_cases h6 : (60 : Int) < ((rg h.roofs k).name.size : Int)
     ·have g6 := decide_eq_true h6
      have HZ := lh (smallH_no (h := h) (most := most) fun q => by have := q.2.2.2.2 k hlt; omega);clear h6
      go_wp2_with fail
      go_ret;exact ⟨ret_bool HZ.out.symm, hBW⟩
     ·have g6 := decide_eq_false h6
      have HY : Hid (∀ j, j < k + 1 → (rg h.roofs j).name.size ≤ 60) := lh fun j hj => by
       rcases Nat.lt_or_eq_of_le (Nat.le_of_lt_succ hj) with l | l
       ·exact HO.out j l
       ·subst l; omega
      clear h6
      go_wp2_with fail
      go_roundw
      case rel => exact ⟨k + 1, by omega, by go_num, HY, hB⟩
      case measure => simp [intOf]; omega
    ·obtain rfl : k = h.roofs.length := by omega
     have HR : Hid (smallHB h most = true) := lh (smallH_iff.2 ⟨by have := of_decide_eq_false H1.out; omega, by have := of_decide_eq_false H2.out; omega, by have := of_decide_eq_false H3.out; omega, HS.out, HO.out⟩);have hBW := hW0.trans ((HBQ.out.trans (hB.mono HBQ.out.size)).mono hW0.size)
     go_wp2_with fail
     go_ret;exact ⟨ret_bool HR.out.symm, hBW⟩
structure CueSmall (q : CueR) (most : Int) : Prop where
 moves : (q.moves.length : Int) ≤ most
 name : q.name.size ≤ 60
 after : q.after.size ≤ 60
 sets : ∀ k, k < q.moves.length → (mg q.moves k).name.size ≤ 60
structure SmallC (s : SheetR) (most : Int) : Prop where
 cues : (s.cues.length : Int) ≤ most
 pairs : (s.pairs.length : Int) ≤ 2 * most
 each : ∀ i, i < s.cues.length → CueSmall (cg s.cues i) most
 names : ∀ i, i < s.pairs.length → (pg s.pairs i).1.size ≤ 60 ∧ (pg s.pairs i).2.size ≤ 60
noncomputable def smallCB (s : SheetR) (most : Int) : Bool := @decide (SmallC s most) (Classical.propDecidable _)
theorem smallC_iff {s : SheetR} {most : Int} : smallCB s most = true ↔ SmallC s most := @decide_eq_true_iff (SmallC s most) (Classical.propDecidable _)
theorem smallC_no {s : SheetR} {most : Int} (n : ¬ SmallC s most) : smallCB s most = false := by
 cases e : smallCB s most
 ·rfl
 ·exact absurd (smallC_iff.1 e) n
theorem smallC_in {w : World} {s : SheetR} {most : Int} (hm : most ≤ 900) (x : SheetIn0 w s) (z : SmallC s most) : SheetIn w s :=
 ⟨x, by have := z.cues; omega, fun i hi => by have := (z.each i hi).moves; omega, fun i hi => by have := z.names i hi; omega⟩
theorem rsmallc_any (s : SheetR) (most : Int) (m0 : 0 ≤ most) (m1 : most ≤ 900) (w : World) (hs : SheetIn0 w s) :
  Calls Tryz.prog 19 #[.agg #[.slice s.ca s.cues.length s.cc, .slice s.pa s.pairs.length s.pc], .int .i64 most] w fun e w' => e = .returned (.bool (smallCB s most)) ∧ Below w.heap.size w w' := by
 have hb0 : Below w.heap.size w (w.alloc (SC s)) := below_new w _
 have HX : Hid (∀ w', Below (w.alloc (SC s)).heap.size (w.alloc (SC s)) w' → SheetAt w' w.heap.size s ∧ SheetIn0 w' s) := lh fun w' z =>
  ⟨(show SheetAt (w.alloc (SC s)) w.heap.size s by unfold SheetAt; simp).carry z, (hs.grow hb0).grow z⟩
 have HW : Hid (∀ w', Below (w.alloc (SC s)).heap.size (w.alloc (SC s)) w' → Below w.heap.size w w') := lh fun w' z => hb0.trans (z.mono hb0.size);have mw : IntKind.i64.wrap (2 * most) = 2 * most := IntWalk.i64_in _ (by omega);clear hs hb0
 cases h1 : decide (most < (s.cues.length : Int))
 case true =>
  have HZ := lh (smallC_no (s := s) (most := most) fun q => by have := q.cues; have := of_decide_eq_true h1; omega)
  go_enter Tryz.func19, Tryz.ntmps19
  go_upto_region 1 with (fail)
  obtain ⟨W0, hW0⟩ := nm (w.alloc (SC s) : World);simp only [hW0] at HX HW ⊢;clear hW0;obtain ⟨B1, hB1⟩ := nm (w.heap.size);rw [hB1] at HX ⊢;clear hB1;obtain ⟨s0, s1⟩ := (HX.out _ br).1
  go_wp2_with fail
  go_ret;exact ⟨ret_bool HZ.out.symm, HW.out _ br⟩
 cases h2 : decide (2 * most < (s.pairs.length : Int))
 case true =>
  have HZ := lh (smallC_no (s := s) (most := most) fun q => by have := q.pairs; have := of_decide_eq_true h2; omega)
  go_enter Tryz.func19, Tryz.ntmps19
  go_upto_region 1 with (fail)
  obtain ⟨W0, hW0⟩ := nm (w.alloc (SC s) : World);simp only [hW0] at HX HW ⊢;clear hW0;obtain ⟨B1, hB1⟩ := nm (w.heap.size);rw [hB1] at HX ⊢;clear hB1;obtain ⟨s0, s1⟩ := (HX.out _ br).1
  go_wp2_with fail
  go_ret;exact ⟨ret_bool HZ.out.symm, HW.out _ br⟩
 have hcl : s.cues.length ≤ 900 := by have := of_decide_eq_false h1; omega
 have hpl : s.pairs.length ≤ 1800 := by have := of_decide_eq_false h2; omega
 have HC1 : Hid ((s.cues.length : Int) ≤ most) := lh (by have := of_decide_eq_false h1; omega);have HC2 : Hid ((s.pairs.length : Int) ≤ 2 * most) := lh (by have := of_decide_eq_false h2; omega)
 go_enter Tryz.func19, Tryz.ntmps19
 go_upto_region 1 with (fail)
 obtain ⟨W0, hW0⟩ := nm (w.alloc (SC s) : World);simp only [hW0] at HX HW ⊢;clear hW0;obtain ⟨B1, hB1⟩ := nm (w.heap.size);rw [hB1] at HX ⊢;clear hB1;obtain ⟨ca, hca⟩ := nm (s.ca);obtain ⟨pa, hpa⟩ := nm (s.pa);have HCA := lh hca;have HPA := lh hpa;rw [hca, hpa];clear hca hpa;obtain ⟨s0, s1⟩ := (HX.out _ br).1;rw [HCA.out] at s0;rw [HPA.out] at s1
 go_upto_region 4 with (fail)
 clear s0 s1 h1 h2 mw;have hB0 : Below W0.heap.size W0 W0 := br;obtain ⟨n₀, hn0⟩ := nm (W0.heap.size);rw [hn0] at HX HW hB0;have hn1 : n₀ ≤ W0.heap.size := by omega
 clear hn0
 go_loopw [5, 6] (fun i _ wr => ∃ k : Nat, i = .int .i64 k ∧ k ≤ s.cues.length ∧ Below n₀ W0 wr ∧ n₀ ≤ wr.heap.size ∧ Hid (∀ j, j < k → CueSmall (cg s.cues j) most)) (fun i _ _ => s.cues.length - (intOf i).toNat)
 case atStart => exact ⟨0, rfl, Nat.zero_le _, hB0, hn1, lh (fun _ h => absurd h (Nat.not_lt_zero _))⟩
 case round =>
  clear hB0 hn1;obtain ⟨k, rfl, hk, hB, hnw, HO⟩ := hrel;obtain ⟨⟨s0, s1⟩, hsi⟩ := HX.out _ hB;rw [HCA.out] at s0;rw [HPA.out] at s1
  by_cases hlt : k < s.cues.length
  ·obtain ⟨b, off, ha, hb, hc⟩ := hsi.lies (by omega)
   rw [HCA.out] at ha;subst ha;obtain ⟨d0, d1, d2, d3, d4, d5, d6⟩ := hc k hlt;have hmv := hsi.each k hlt;have HNO : Hid (¬ CueSmall (cg s.cues k) most → smallCB s most = false) := lh fun z => smallC_no fun q => z (q.each k hlt)
   have HYES : Hid (CueSmall (cg s.cues k) most → ∀ j, j < k + 1 → CueSmall (cg s.cues j) most) := lh fun z j hj => by
    rcases Nat.lt_or_eq_of_le (Nat.le_of_lt_succ hj) with l | l
    ·exact HO.out j l
    ·subst l; exact z
   have HMV := lh hmv;obtain ⟨q, hq⟩ := nm (cg s.cues k);rw [hq] at d0 d1 d2 d3 d4 d5 d6 HNO HYES HMV;clear hsi hc hq hmv HO;have hB3 := hB.alloc hnw (CC q);have hbn := below_new wr (CC q);have HC3 := CueAt.new wr q 49 _ rfl;have HM3 := lh (HMV.out.grow hbn);have hn3 : n₀ ≤ (wr.alloc (CC q)).heap.size := by simp; omega
   go_upto_region 7 with (fail)
   clear s0 s1 d0 d1 d2 d3 d4 d5 d6 hbn hB hnw hb HMV;generalize wr.alloc (CC q) = W3 at *;obtain ⟨B6, hB6⟩ := nm (wr.heap.size);rw [hB6] at HC3 ⊢;clear hB6;have HCC := lh HC3;obtain ⟨ma, hma⟩ := nm (q.ma);have HMA := lh hma;obtain ⟨p0, p1, p2, p3, p4, p5, p6⟩ := HC3;rw [hma] at p4;clear hma
   cases t1 : decide (most < (q.moves.length : Int))
   case true =>
    have HZ := lh (HNO.out fun z => by have := z.moves; have := of_decide_eq_true t1; omega)
    go_wp2_with fail
    go_ret;exact ⟨ret_bool HZ.out.symm, HW.out _ hB3⟩
   cases t2 : decide ((60 : Int) < (q.name.size : Int))
   case true =>
    have HZ := lh (HNO.out fun z => by have := z.name; have := of_decide_eq_true t2; omega)
    go_wp2_with fail
    go_ret;exact ⟨ret_bool HZ.out.symm, HW.out _ hB3⟩
   cases t3 : decide ((60 : Int) < (q.after.size : Int))
   case true =>
    have HZ := lh (HNO.out fun z => by have := z.after; have := of_decide_eq_true t3; omega)
    go_wp2_with fail
    go_ret;exact ⟨ret_bool HZ.out.symm, HW.out _ hB3⟩
   have HT : Hid ((q.moves.length : Int) ≤ most ∧ q.name.size ≤ 60 ∧ q.after.size ≤ 60) := lh (by have := of_decide_eq_false t1; have := of_decide_eq_false t2; have := of_decide_eq_false t3; omega);have hml : q.moves.length ≤ 900 := by have := HT.out.1; omega
   go_upto_region 10 with (fail)
   clear p0 p1 p2 p3 p4 p5 p6 t1 t2 t3
   go_loopw [7] (fun i wx => ∃ j : Nat, i = .int .i64 j ∧ j ≤ q.moves.length ∧ Below W3.heap.size W3 wx ∧ Hid (∀ x, x < j → (mg q.moves x).name.size ≤ 60)) (fun i _ => q.moves.length - (intOf i).toNat)
   case atStart => exact ⟨0, rfl, Nat.zero_le _, br, lh (fun _ h => absurd h (Nat.not_lt_zero _))⟩
   case round =>
    obtain ⟨j, rfl, hj, hBx, HJ⟩ := hrel;obtain ⟨p0, p1, p2, p3, p4, p5, p6⟩ := HCC.out.carry hBx;rw [HMA.out] at p4
    by_cases hjt : j < q.moves.length
    ·obtain ⟨mb, mo, hm1, hmb, hmc⟩ := HM3.out.grow hBx (by omega)
     rw [HMA.out] at hm1;subst hm1;obtain ⟨e0, e1, e2, e3, e4⟩ := hmc j hjt;clear hmc
     cases t4 : decide ((60 : Int) < ((mg q.moves j).name.size : Int))
     case true =>
      have HZ := lh (HNO.out fun z => by have := z.sets j hjt; have := of_decide_eq_true t4; omega)
      go_wp2_with fail
      go_ret;exact ⟨ret_bool HZ.out.symm, HW.out _ (hB3.trans (hBx.mono hn3))⟩
     have HY : Hid (∀ x, x < j + 1 → (mg q.moves x).name.size ≤ 60) := lh fun x hx => by
      rcases Nat.lt_or_eq_of_le (Nat.le_of_lt_succ hx) with l | l
      ·exact HJ.out x l
      ·subst l; have := of_decide_eq_false t4; omega
     go_wp2_with fail
     go_roundw
     case rel => exact ⟨j + 1, by go_num, by omega, hBx, HY⟩
     case measure => simp [intOf]; omega
    ·obtain rfl : j = q.moves.length := by omega
     have HY := lh (HYES.out ⟨HT.out.1, HT.out.2.1, HT.out.2.2, HJ.out⟩);have hBR := hB3.trans (hBx.mono hn3);have hnR := Nat.le_trans hn3 hBx.size
     go_wp2_with fail
     go_roundw
     case rel => exact ⟨k + 1, by go_num, by omega, hBR, hnR, HY⟩
     case measure => simp [intOf]; omega
  ·obtain rfl : k = s.cues.length := by omega
   clear hsi
   go_upto_region 15 with (fail)
   clear s0 s1
   go_loopw [8] (fun i wx => ∃ j : Nat, i = .int .i64 j ∧ j ≤ s.pairs.length ∧ Below n₀ W0 wx ∧ Hid (∀ x, x < j → (pg s.pairs x).1.size ≤ 60 ∧ (pg s.pairs x).2.size ≤ 60)) (fun i _ => s.pairs.length - (intOf i).toNat)
   case atStart => exact ⟨0, rfl, Nat.zero_le _, hB, lh (fun _ h => absurd h (Nat.not_lt_zero _))⟩
   case round =>
    clear hB hnw;obtain ⟨j, rfl, hj, hB, HJ⟩ := hrel;obtain ⟨⟨s0, s1⟩, hsi⟩ := HX.out _ hB;rw [HCA.out] at s0;rw [HPA.out] at s1
    by_cases hjt : j < s.pairs.length
    ·obtain ⟨mb, mo, hm1, hmb, hmc⟩ := hsi.plies (by omega)
     rw [HPA.out] at hm1;subst hm1;have HNOX : Hid (¬ ((pg s.pairs j).1.size ≤ 60 ∧ (pg s.pairs j).2.size ≤ 60) → smallCB s most = false) := lh fun z => smallC_no fun q => z (q.names j hjt);obtain ⟨y, hy⟩ := nm (pg s.pairs j);have HYY := lh hy;rw [hy] at HNOX;obtain ⟨e0, e1⟩ := hmc j hjt;rw [hy] at e0 e1;clear hmc hsi hy
     cases t4 : decide ((60 : Int) < (y.1.size : Int))
     case true =>
      have HZ := lh (HNOX.out fun z => by have := z.1; have := of_decide_eq_true t4; omega)
      go_wp2_with fail
      go_ret;exact ⟨ret_bool HZ.out.symm, HW.out _ hB⟩
     cases t5 : decide ((60 : Int) < (y.2.size : Int))
     case true =>
      have HZ := lh (HNOX.out fun z => by have := z.2; have := of_decide_eq_true t5; omega)
      go_wp2_with fail
      go_ret;exact ⟨ret_bool HZ.out.symm, HW.out _ hB⟩
     have HY : Hid (∀ x, x < j + 1 → (pg s.pairs x).1.size ≤ 60 ∧ (pg s.pairs x).2.size ≤ 60) := lh fun x hx => by
      rcases Nat.lt_or_eq_of_le (Nat.le_of_lt_succ hx) with l | l
      ·exact HJ.out x l
      ·subst l; rw [HYY.out]; have := of_decide_eq_false t4; have := of_decide_eq_false t5; omega
     clear HNOX
     go_wp2_with fail
     go_roundw
     case rel => exact ⟨j + 1, by go_num, by omega, hB, HY⟩
     case measure => simp [intOf]; omega
    ·obtain rfl : j = s.pairs.length := by omega
     have HZ := lh (smallC_iff.2 ⟨HC1.out, HC2.out, HO.out, HJ.out⟩);clear hsi
     go_wp2_with fail
     go_ret;exact ⟨ret_bool HZ.out.symm, HW.out _ (by first | exact hB | exact below_drewN hB _)⟩
noncomputable def smallA (h : HouseR) (s : SheetR) (G : List Int) : Bool := smallHB h 5 && (smallCB s 6 && decide (G.length ≤ 100))
theorem smallA_yes {h : HouseR} {s : SheetR} {G : List Int} (e : smallA h s G = true) : SmallH h 5 ∧ SmallC s 6 ∧ G.length ≤ 100 := by
 unfold smallA at e;simp only [Bool.and_eq_true, decide_eq_true_eq] at e;exact ⟨smallH_iff.1 e.1, smallC_iff.1 e.2.1, e.2.2⟩
theorem lawsmall_any (h : HouseR) (s : SheetR) (ga : Option Addr) (G : List Int) (gc : Nat) (w : World) (hh : HouseIn0 w h) (hs : SheetIn0 w s) (hG : Nums w.heap.size w ga G) :
  Calls Tryz.prog 6 #[.agg #[.string h.name, .int .i64 h.height, .slice h.sa h.sets.length h.sc, .slice h.ra h.roofs.length h.rc], .agg #[.slice s.ca s.cues.length s.cc, .slice s.pa s.pairs.length s.pc], .slice ga G.length gc] w fun e w' => e = .returned (.bool (smallA h s G)) ∧ Below w.heap.size w w' := by
 obtain ⟨hb0, HX, HW⟩ := o3 hh hs hG;clear hh hs hG hb0;have HC1 := lh fun (w' : World) (z : HouseIn0 w' h) => smallH_any h 5 (by omega) (by omega) w' z;have HC2 := lh fun (w' : World) (z : SheetIn0 w' s) => rsmallc_any s 6 (by omega) (by omega) w' z;have HZ : Hid (smallA h s G = (smallHB h 5 && (smallCB s 6 && decide (G.length ≤ 100)))) := lh rfl;obtain ⟨p, hp⟩ := nm (smallHB h 5);obtain ⟨q, hq⟩ := nm (smallCB s 6);obtain ⟨r, hr⟩ := nm (decide (G.length ≤ 100));have g1 : decide ((G.length : Int) ≤ 100) = r := by rw [← hr]; exact decide_eq_decide.2 (by omega)
 rw [hp, hq, hr] at HZ;rw [hp] at HC1;rw [hq] at HC2;clear hp hq hr
 cases p
 ·go_enter Tryz.func6, Tryz.ntmps6
  go_upto_region 1 with (fail)
  obtain ⟨W0, hW0⟩ := nm ((TW w h s) : World);simp only [hW0] at HX HW ⊢;clear hW0;obtain ⟨B1, hB1⟩ := nm (w.heap.size);obtain ⟨B2, hB2⟩ := nm (w.heap.size + 1);rw [hB2] at HX ⊢;rw [hB1] at HX ⊢;clear hB1 hB2;obtain ⟨⟨a0, a1, a2, a3⟩, ⟨s0, s1⟩, -, -, -⟩ := HX.out _ br
  go_wp2_with (go_at_call 18; (with_reducible refine (HC1.out _ (HX.out _ br).2.2.1).mono ?_); rintro e w1 ⟨rfl, hb1⟩)
  go_ret;exact ⟨ret_bool (by rw [HZ.out]; rfl), HW.out _ hb1⟩
 ·cases q
  ·go_enter Tryz.func6, Tryz.ntmps6
   go_upto_region 1 with (fail)
   obtain ⟨W0, hW0⟩ := nm ((TW w h s) : World);simp only [hW0] at HX HW ⊢;clear hW0;obtain ⟨B1, hB1⟩ := nm (w.heap.size);obtain ⟨B2, hB2⟩ := nm (w.heap.size + 1);rw [hB2] at HX ⊢;rw [hB1] at HX ⊢;clear hB1 hB2;obtain ⟨⟨a0, a1, a2, a3⟩, ⟨s0, s1⟩, -, -, -⟩ := HX.out _ br
   go_wp2_with (first
    | (go_at_call 18; (with_reducible refine (HC1.out _ (HX.out _ br).2.2.1).mono ?_); rintro e w1 ⟨rfl, hb1⟩; obtain ⟨-, ⟨t0, t1⟩, -, -, -⟩ := HX.out _ hb1)
    | (go_at_call 19; (with_reducible refine (HC2.out _ (HX.out _ hb1).2.2.2.1).mono ?_); rintro e w2 ⟨rfl, hb2⟩; have hb3 := hb1.trans (hb2.mono hb1.size)))
   go_ret;exact ⟨ret_bool (by rw [HZ.out]; rfl), HW.out _ hb3⟩
  ·go_enter Tryz.func6, Tryz.ntmps6
   go_upto_region 1 with (fail)
   obtain ⟨W0, hW0⟩ := nm ((TW w h s) : World);simp only [hW0] at HX HW ⊢;clear hW0;obtain ⟨B1, hB1⟩ := nm (w.heap.size);obtain ⟨B2, hB2⟩ := nm (w.heap.size + 1);rw [hB2] at HX ⊢;rw [hB1] at HX ⊢;clear hB1 hB2;obtain ⟨⟨a0, a1, a2, a3⟩, ⟨s0, s1⟩, -, -, -⟩ := HX.out _ br
   go_wp2_with (first
    | (go_at_call 18; (with_reducible refine (HC1.out _ (HX.out _ br).2.2.1).mono ?_); rintro e w1 ⟨rfl, hb1⟩; obtain ⟨-, ⟨t0, t1⟩, -, -, -⟩ := HX.out _ hb1)
    | (go_at_call 19; (with_reducible refine (HC2.out _ (HX.out _ hb1).2.2.2.1).mono ?_); rintro e w2 ⟨rfl, hb2⟩; have hb3 := hb1.trans (hb2.mono hb1.size)))
   go_ret;exact ⟨ret_bool (by rw [HZ.out]; rfl), HW.out _ hb3⟩
end
section
open Go.RowKit Go.Shelf
/-! ### Slices of []int -/
structure LstR where
 a : Option Addr
 xs : List Int
 c : Nat

def lg (L : List (LstR)) (i : Nat) : LstR := (L[i]?).getD ⟨none, [], 0⟩
theorem lg_old (L : List (LstR)) (x : LstR) (i : Nat) (h : i < L.length) : lg (L ++ [x]) i = lg L i := by unfold lg; rw [List.getElem?_append_left h]
theorem lg_new (L : List (LstR)) (x : LstR) : lg (L ++ [x]) L.length = x := by unfold lg; simp
def lstV (r : LstR) : Value := .slice r.a r.xs.length r.c
def lflat (L : List (LstR)) : List Value := L.flatMap fun r => [.slice r.a r.xs.length r.c]
theorem lflat_at (L : List (LstR)) (i : Nat) (hi : i < L.length) : (lflat L)[i]? = some (.slice (lg L i).a (lg L i).xs.length (lg L i).c) := by
 induction L generalizing i with
 | nil => simp at hi
 | cons x r ih =>
  match i with
  | 0 => exact rfl
  | i + 1 =>
   have := ih i (by simpa using hi);have e : lflat (x :: r) = .slice x.a x.xs.length x.c :: lflat r := rfl;rw [e, show (i + 1) = i + 1 by omega]
   simpa [lg] using this
theorem lflat_snoc (L : List (LstR)) (r : LstR) : lflat (L ++ [r]) = lflat L ++ [.slice r.a r.xs.length r.c] := by simp [lflat]
def Lsts (n₀ : Nat) (w : World) (a : Option Addr) (L : List (LstR)) : Prop :=
 0 < L.length → ∃ b off, a = some ⟨b, off, none⟩ ∧ b < n₀ ∧ ∀ i, i < L.length → w.cell? ⟨b, off + i, none⟩ = some (.slice (lg L i).a (lg L i).xs.length (lg L i).c)
theorem Lsts.below {n₀ : Nat} {w w' : World} {a : Option Addr} {L : List (LstR)} (h : Lsts n₀ w a L) (hb : Below n₀ w w') : Lsts n₀ w' a L := fun hl => by
 obtain ⟨b, off, rfl, hlt, hc⟩ := h hl;refine ⟨b, off, rfl, hlt, fun i hi => ?_⟩;have c0 := hc i hi;exact (hb.cell (p := ⟨b, _, none⟩) hlt).trans c0
theorem Lsts.mono {n₀ n₁ : Nat} {w : World} {a : Option Addr} {L : List (LstR)} (h : Lsts n₀ w a L) (hn : n₀ ≤ n₁) : Lsts n₁ w a L := fun hl => by
 obtain ⟨b, off, rfl, hlt, hc⟩ := h hl;exact ⟨b, off, rfl, by omega, hc⟩
theorem Lsts.grow {w w' : World} {a : Option Addr} {L : List (LstR)} (h : Lsts w.heap.size w a L) (hb : Below w.heap.size w w') : Lsts w'.heap.size w' a L := (h.below hb).mono hb.size
theorem lst_of_row {w : World} {base : Nat} {v : Value} {L : List (LstR)} (h : w.ownsRow base 30 1 v L.length (lflat L)) : ∃ a cap, v = .slice a L.length cap ∧ L.length ≤ cap ∧ cap ≤ maxLen ∧ (a = none → cap = 0) ∧ Lsts w.heap.size w a L := by
 rcases h.2 with ⟨rfl, h0⟩ | ⟨g, cap, cur, rfl, hb, hg, h1, h2, _⟩
 ·exact ⟨none, 0, by rw [h0], by omega, by unfold maxLen; omega, fun _ => rfl, fun hl => by omega⟩
 ·refine ⟨_, cap, rfl, h1, h2, (fun e => by cases e), fun _ => ⟨g, 0, rfl, (Array.getElem?_eq_some_iff.1 hg).1, fun i hi => ?_⟩⟩
  have f0 := lflat_at L i hi;have c0 := h.cellAt (i) (by omega);rw [f0] at c0;rw [Nat.zero_add];exact c0
theorem lst_info : (Tryz.prog.info? 30).map (fun i => (i.zero, i.size, i.bytes)) = some (some (.slice none 0 0), 1, 24) := by kernel_rfl

theorem lst_append {ops : Array Oper} {rest : List Oper} {o : Oper} {a : Act} {w : World} {Q : Exit → Act → World → Prop} (hgd : o.guard = none) (s x : Operand)
  (ho : o.op = .call { callee := .builtin .append, args := #[s, x], argTypes := #[71, 71] })
  (base : Nat) (v : Value) (L : List (LstR)) (hs : a.eval s = v) (hown : w.ownsRow base 30 1 v L.length (lflat L))
  (bl : Nat) (y : LstR) (hx : a.eval x = .slice (some ⟨bl, 0, none⟩) 1 1) (hc : w.cell? ⟨bl, 0, none⟩ = some (.slice y.a y.xs.length y.c)) (hl : L.length ≤ 1000000) (hbase : base ≤ w.heap.size)
  (h : ∀ v' w', w'.ownsRow base 30 1 v' (L ++ [y]).length (lflat (L ++ [y])) → w.grownBy w' v.ownBlock → wpList Tryz.prog ops Q rest (a.put o.dst v') w') : wpList Tryz.prog ops Q (o :: rest) a w := by
 obtain ⟨i0, hi, hz0, hz1, hz2⟩ := info_parts lst_info;refine wpList_append_own _ hgd s x 71 ho base 30 i0 _ 1 24 Tryz.underlying71 hi hz0 hz1 hz2 rfl (by decide) v L.length (lflat L) hs hown ⟨bl, 0, none⟩ 1 1 [.slice y.a y.xs.length y.c] hx rfl ?_ (by simp [Value.oneCell']) (by unfold maxLen; omega) (by omega) hbase ?_
 ·have c0 := hc
  intro j u hj;rw [Go.WideShapes.add_plain, Nat.zero_add]
  match j, hj with
  | 0, hj => simp at hj; subst hj; exact c0
 ·intro v' w' h1 h2 _
  refine h v' w' ?_ h2;rw [lflat_snoc, List.length_append];exact h1

theorem num_types {w : World} {base base' size size' n n' : Nat} {e e' : TypeId} {v v' : Value} {xs xs' : List Value} (h : w.ownsRow base e size v n xs) (h' : w.ownsRow base' e' size' v' n' xs') (ne : e ≠ e') : v.ownBlock = none ∨ v.ownBlock ≠ v'.ownBlock := by
 rcases h.2 with ⟨rfl, _⟩ | ⟨g, cap, cur, rfl, _, hg, _⟩
 ·exact .inl rfl
 ·refine .inr fun q => ?_
  rcases h'.2 with ⟨rfl, _⟩ | ⟨g', cap', cur', rfl, _, hg', _⟩
  ·simp [Value.ownBlock] at q
  ·simp only [Value.ownBlock, Option.some.injEq] at q
   subst q;rw [hg] at hg';simp only [Option.some.injEq, Obj.cells.injEq] at hg';exact ne hg'.2.1
def OwnLs (w : World) (base : Nat) (P : List LstR) : Prop := ∀ i, i < P.length → w.ownsRow base 3 1 (lstV (lg P i)) (lg P i).xs.length (nflat (lg P i).xs)
theorem OwnLs.below {w w' : World} {base : Nat} {P : List LstR} (h : OwnLs w base P) (hb : Below w.heap.size w w') : OwnLs w' base P := fun i hi => ownsRow_below (h i hi) hb
theorem OwnLs.kept {w w' : World} {base base' n : Nat} {P : List LstR} {v : Value} {xs : List Value} (h : OwnLs w base P) (hv : w.ownsRow base' 30 1 v n xs) (hg : w.grownBy w' v.ownBlock) : OwnLs w' base P :=
 fun i hi => (h i hi).kept hg (num_types (h i hi) hv (by decide))
theorem OwnLs.snoc {w : World} {base : Nat} {P : List LstR} {y : LstR} (h : OwnLs w base P) (hy : w.ownsRow base 3 1 (lstV y) y.xs.length (nflat y.xs)) : OwnLs w base (P ++ [y]) := fun i hi => by
 rw [List.length_append, List.length_singleton] at hi;rcases Nat.lt_or_ge i P.length with l | l
 ·rw [lg_old P y i l]; exact h i l
 ·obtain rfl : i = P.length := by omega
  rw [lg_new]; exact hy
theorem OwnLs.nums {w : World} {base : Nat} {P : List LstR} (h : OwnLs w base P) {i : Nat} (hi : i < P.length) : Nums w.heap.size w (lg P i).a (lg P i).xs := by
 obtain ⟨a, cap, e, _, _, _, hn⟩ := num_of_row (h i hi);unfold lstV at e
 cases e
 exact hn
end
section
open Go.RowKit Go.Shelf
attribute [local go_sem] Oper.semAt_some
theorem nflat_setL : ∀ (X : List Int) (i : Nat) (v : Int), nflat (X.set i v) = (nflat X).set i (.int .i64 v)
 | [], _, _ => rfl
 | x :: X, 0, v => rfl
 | x :: X, i + 1, v => by
  have e : ∀ (y : Int) (Q : List Int), nflat (y :: Q) = .int .i64 y :: nflat Q := fun _ _ => rfl;rw [List.set_cons_succ, e, e, List.set_cons_succ, nflat_setL X i v]
structure HeldM (n₀ : Nat) (W0 : World) (B : Nat) (x : Mv) (w : World) : Prop where
 old : Below n₀ W0 w
 mv : MvAt w B x
theorem mvAt_other {w : World} {B g o : Nat} {x : Mv} (h : MvAt w B x) (hg : g < B) (v : Value) : MvAt (w.setCell ⟨g, o, none⟩ v) B x := by
 have ne : ∀ k, (⟨g, o, none⟩ : Addr) ≠ ⟨B, k, none⟩ := fun k e => by cases e; omega
 obtain ⟨a0, a1, a2, a3, a4⟩ := h;exact ⟨(World.cell?_setCell_other _ _ _ _ (ne 0)).trans a0, (World.cell?_setCell_other _ _ _ _ (ne 1)).trans a1, (World.cell?_setCell_other _ _ _ _ (ne 2)).trans a2, (World.cell?_setCell_other _ _ _ _ (ne 3)).trans a3, (World.cell?_setCell_other _ _ _ _ (ne 4)).trans a4⟩
theorem moved_any (h : HouseR) (q : CueR) (ta : Option Addr) (t : List Int) (tc : Nat) (w : World) (hh : HouseIn0 w h) (hl : h.sets.length ≤ 1000) (hm : Movs w.heap.size w q.ma q.moves) (hml : q.moves.length ≤ 1000)
  (ht : Nums w.heap.size w ta t) (htl : t.length = h.sets.length) (htn : ta = none → tc = 0) (hok : ∀ i, i < q.moves.length → 0 ≤ findS h.sets (mg q.moves i).name) :
  Calls Tryz.prog 65 #[.agg #[.string h.name, .int .i64 h.height, .slice h.sa h.sets.length h.sc, .slice h.ra h.roofs.length h.rc], .slice ta t.length tc, .agg #[.string q.name, .string q.after, .int .i64 q.link, .int .i64 q.delay, .slice q.ma q.moves.length q.mc, .int .i64 q.crew, .int .i64 q.power]] w fun e w' => Hid (∃ v, e = .returned v ∧ w'.ownsRow w.heap.size 3 1 v (movedL h t q.moves).length (nflat (movedL h t q.moves))) ∧ Below w.heap.size w w' := by
 have hb0 : Below w.heap.size w ((w.alloc (HC h)).alloc (CC q)) := (below_new w _).alloc (by simp) _
 have HX : Hid (∀ w', Below ((w.alloc (HC h)).alloc (CC q)).heap.size ((w.alloc (HC h)).alloc (CC q)) w' → HouseAt w' w.heap.size h ∧ CueAt w' (w.heap.size + 1) q ∧ HouseIn0 w' h ∧ Movs w'.heap.size w' q.ma q.moves) := lh fun w' z =>
  ⟨((HouseAt.new w h _).carry (below_new _ _)).carry z, (CueAt.new (w.alloc _) q _ _ (by simp)).carry z, (hh.grow hb0).grow z, (hm.grow hb0).grow z⟩
 have HT := lh (ht.grow hb0);have HW : Hid (∀ w', Below ((w.alloc (HC h)).alloc (CC q)).heap.size ((w.alloc (HC h)).alloc (CC q)) w' → Below w.heap.size w w') := lh fun w' z => hb0.trans (z.mono hb0.size);have hsz := hb0.size;have hml2 : (movedL h t q.moves).length = t.length := movedL_len h q.moves t;have HOK := lh hok;have HTN := lh htn;have HML2 := lh hml2;have HTLL := lh htl;have HCL := lh fun (W0 : World) (z : Nums W0.heap.size W0 ta t) => num_clone ta t tc W0 (by omega) htn z;clear hh hb0 hm ht hok htn hml2 htl
 go_enter Tryz.func65, Tryz.ntmps65
 go_upto_region 1 with (fail)
 obtain ⟨W0, hW0⟩ := nm (((w.alloc (HC h)).alloc (CC q)) : World);simp only [hW0] at HX HW HT hsz ⊢;clear hW0;obtain ⟨B1, hB1⟩ := nm (w.heap.size);obtain ⟨B2, hB2⟩ := nm (w.heap.size + 1);have HSB : Hid (B1 = w.heap.size) := lh hB1.symm;rw [hB2] at HX ⊢;rw [hB1] at HX hsz ⊢;clear hB1 hB2;obtain ⟨qa, hqa⟩ := nm (q.ma);have HQA := lh hqa;rw [hqa] at HX ⊢;clear hqa;obtain ⟨n₀, hn0⟩ := nm (W0.heap.size);have HCL2 := lh (HCL.out W0 HT.out);rw [hn0] at HCL2
 go_upto_region 3 with (go_at_call 104; (with_reducible refine HCL2.out.mono ?_); rintro e w1 hx1; obtain ⟨v1, rfl, hr1, hb1⟩ := hx1.out; have HR1 := lh hr1; obtain ⟨-, ⟨c0, c1, c2, c3, c4, c5, c6⟩, -, -⟩ := HX.out _ (by rw [hn0]; exact hb1); rw [HQA.out] at c4; clear hx1 hr1)
 have HXX : Hid (∀ w', Below n₀ W0 w' → HouseAt w' B1 h ∧ CueAt w' B2 q ∧ HouseIn0 w' h ∧ Movs w'.heap.size w' qa q.moves) := lh fun w' z => by rw [← hn0] at z; exact HX.out w' z
 have HWW : Hid (∀ w', Below n₀ W0 w' → Below w.heap.size w w') := lh fun w' z => by rw [← hn0] at z; exact HW.out w' z
 have hn1 : n₀ ≤ w1.heap.size := by have := hb1.size; omega
 have hsz2 : B1 ≤ n₀ := by rw [← hn0]; exact hsz
 clear c0 c1 c2 c3 c4 c5 c6 HX HW HCL HCL2 hn0 HT hsz;rw [HTLL.out] at HR1
 go_loopw [9, 15] (fun _ iv wr => ∃ k : Nat, iv = .int .i64 k ∧ k ≤ q.moves.length ∧ Below n₀ W0 wr ∧ n₀ ≤ wr.heap.size ∧ Hid (wr.ownsRow n₀ 3 1 v1 h.sets.length (nflat (movedL h t (q.moves.take k))))) (fun _ iv _ => q.moves.length - (intOf iv).toNat)
 case atStart => exact ⟨0, rfl, Nat.zero_le _, hb1, hn1, lh (by rw [List.take_zero]; exact HR1.out)⟩
 case round =>
  clear HR1 hb1 hn1;obtain ⟨k, rfl, hk, hB, hnw, HR⟩ := hrel
  by_cases hlt : k < q.moves.length
  ·obtain ⟨⟨a0, a1, a2, a3⟩, -, -, hmv⟩ := HXX.out _ hB
   obtain ⟨mb, mo, hma, hmb, hmx⟩ := hmv (by omega);subst hma;obtain ⟨d0, d1, d2, d3, d4⟩ := hmx k hlt;have HSN := lh (movedL_snoc h t q.moves hlt);have hf0 := HOK.out k hlt;have hf1 := (find_name hf0).1;have HTL : Hid ((movedL h t (q.moves.take k)).length = h.sets.length) := lh (by rw [movedL_len, HTLL.out]);obtain ⟨x, hx⟩ := nm (mg q.moves k);rw [hx] at d0 d1 d2 d3 d4 HSN hf0 hf1;obtain ⟨f, hf⟩ := nm (findS h.sets x.name);have HF := lh hf;rw [hf] at hf0 hf1 HSN;have hf2 : f < (h.sets.length : Int) := by omega
   obtain ⟨T, hT⟩ := nm (movedL h t (q.moves.take k));rw [hT] at HR HSN HTL;clear hx hf hmx hmv hT
   have hvv : ∃ g cap, v1 = .slice (some ⟨g, 0, none⟩) h.sets.length cap ∧ n₀ ≤ g := by
    rcases HR.out.2 with ⟨_, e0⟩ | ⟨g, cap, cur, e, hb, _⟩
    ·omega
    ·exact ⟨g, cap, e, hb⟩
   obtain ⟨g, cap, hv1, hgn⟩ := hvv;subst hv1;have hgw : g < wr.heap.size := (HR.out.lt _ rfl).2;have HSETC := lh fun (w' : World) (z : HouseIn0 w' h) => cset_any h x.name w' z hl;have hBX := (hB.alloc hnw (.cells #[.string x.name, .int .i64 x.to, .int .i64 x.spd, .int .i64 x.rise, .int .i64 x.fall] 93));have HAX : Hid (MvAt (wr.alloc (.cells #[.string x.name, .int .i64 x.to, .int .i64 x.spd, .int .i64 x.rise, .int .i64 x.fall] 93)) wr.heap.size x) := lh (MvAt.new wr x _);have HRX := lh (HR.out.alloc (.cells #[.string x.name, .int .i64 x.to, .int .i64 x.spd, .int .i64 x.rise, .int .i64 x.fall] 93));have hnx : n₀ ≤ (wr.alloc (.cells #[.string x.name, .int .i64 x.to, .int .i64 x.spd, .int .i64 x.rise, .int .i64 x.fall] 93)).heap.size := by simp; omega
   clear HR hB
   go_upto_region 5 with (fail)
   generalize wr.alloc (.cells #[.string x.name, .int .i64 x.to, .int .i64 x.spd, .int .i64 x.rise, .int .i64 x.fall] 93) = W3 at *;obtain ⟨B4, hB4⟩ := nm (wr.heap.size);rw [hB4] at HAX ⊢;have hB4n : n₀ ≤ B4 := by omega
   have hgB : g < B4 := by have := hgw; omega
   clear hB4 d0 d1 d2 d3 d4 a0 a1 a2 a3 hnw;have HRD := lh (show W3.drew.ownsRow n₀ 3 1 (.slice (some ⟨g, 0, none⟩) h.sets.length cap) h.sets.length (nflat T) from HRX.out);have hn6 : n₀ ≤ W3.drew.heap.size := hnx;have x0 : ∀ w', HeldM n₀ W0 B4 x w' → w'.cell? ⟨B1, 0, none⟩ = some (.string h.name) := fun w' z => (HXX.out w' z.old).1.1;have x1 : ∀ w', HeldM n₀ W0 B4 x w' → w'.cell? ⟨B1, 1, none⟩ = some (.int .i64 h.height) := fun w' z => (HXX.out w' z.old).1.2.1;have x2 : ∀ w', HeldM n₀ W0 B4 x w' → w'.cell? ⟨B1, 2, none⟩ = some (.slice h.sa h.sets.length h.sc) := fun w' z => (HXX.out w' z.old).1.2.2.1;have x3 : ∀ w', HeldM n₀ W0 B4 x w' → w'.cell? ⟨B1, 3, none⟩ = some (.slice h.ra h.roofs.length h.rc) := fun w' z => (HXX.out w' z.old).1.2.2.2;have y0 : ∀ w', HeldM n₀ W0 B4 x w' → w'.cell? ⟨B4, 0, none⟩ = some (.string x.name) := fun w' z => z.mv.1;have y1 : ∀ w', HeldM n₀ W0 B4 x w' → w'.cell? ⟨B4, 1, none⟩ = some (.int .i64 x.to) := fun w' z => z.mv.2.1;refine wp_region_held_drew (S := (HeldM n₀ W0 B4 x)) (by kernel_rfl) (⟨hBX.drew, HAX.out.carry (br).drew⟩) (fun hHeld => ?_);refine tk 0 ?_; refine tk 1 ?_; refine tk 2 ?_; refine tk 3 ?_; refine tk 5 ?_; refine tk 6 ?_;refine r1 4 (fun K hK => ?_)
   try simp only [q4, q5, q6]
   go_simp
   (go_at_call 67; go_split_ands; (with_reducible refine (HSETC.out _ (HXX.out _ hHeld.old).2.2.1).mono ?_); rintro e w6 ⟨rfl, hb6⟩; rw [HF.out]; have HR6 := lh (ownsRow_below HRD.out hb6); have how : n₀ ≤ w6.heap.size := Nat.le_trans hn6 hb6.size; have hHeld6 := hHeld.old.trans (hb6.mono hn6); have hMv6 := hHeld.mv.carry hb6)
   go_wp2_with fail
   refine hK.out _ _ (⟨hHeld6, hMv6⟩) (fun hHeld => ?_);clear hK K
   try simp only [Act.put, qq]
   refine tk 7 ?_;have o2 : w6.cell? ⟨g, f.toNat, none⟩ = some (.int .i64 (ig T f.toNat)) := by rw [HR6.out.cellAt f.toNat (by omega), nflat_at _ _ (by rw [HTL.out]; exact hf1)]
   have o3 := HR6.out.frozenAt f.toNat;have o4 : g < w6.heap.size := (HR6.out.lt _ rfl).2;refine r1 8 (fun K hK => ?_);rw [if_pos (by rfl)]
   try simp only [q4, q5, q6]
   go_wp2_with fail
   refine hK.out _ _ ⟨hHeld6.setCell (show n₀ ≤ (⟨g, f.toNat, none⟩ : Addr).block from hgn) _, mvAt_other hMv6 hgB _⟩ (fun hHeld7 => ?_);clear hK K
   try simp only [Act.put, qq]
   refine wpAnyH_done (by kernel_rfl) ?_ _;have HST := lh (show (w6.setCell ⟨g, f.toNat, none⟩ (.int .i64 x.to)).ownsRow n₀ 3 1 (.slice (some ⟨g, 0, none⟩) h.sets.length cap) h.sets.length (nflat (movedL h t (q.moves.take (k + 1)))) by rw [HSN.out, nflat_setL]; exact (HR6.out.stored f.toNat _).1);have hsz7 : n₀ ≤ (w6.setCell ⟨g, f.toNat, none⟩ (.int .i64 x.to)).heap.size := by simp; omega
   go_wp2_with fail
   go_roundw
   case rel => exact ⟨k + 1, by go_num, by omega, hHeld7.old, hsz7, HST⟩
   case measure => simp [intOf]; omega
  ·obtain rfl : k = q.moves.length := by omega
   rw [List.take_length] at HR
   go_wp2_with fail
   go_ret;exact ⟨lh ⟨_, rfl, by rw [HML2.out, HTLL.out, ← HSB.out]; exact ownsRow_base HR.out hsz2⟩, HWW.out _ hB⟩
end
section
open Go.RowKit Go.Shelf
theorem nflat_app (L t : List Int) : nflat (L ++ t) = nflat L ++ nflat t := by simp [nflat]
theorem num_append_all {ops : Array Oper} {rest : List Oper} {o : Oper} {a : Act} {w : World} {Q : Exit → Act → World → Prop} (hgd : o.guard = none) (s x : Operand)
  (ho : o.op = .call { callee := .builtin .append, args := #[s, x], argTypes := #[30, 30] })
  (base : Nat) (v : Value) (L : List Int) (hs : a.eval s = v) (hown : w.ownsRow base 3 1 v L.length (nflat L))
  (ta : Option Addr) (t : List Int) (tc : Nat) (hx : a.eval x = .slice ta t.length tc) (ht : Nums w.heap.size w ta t) (htn : ta = none → tc = 0) (hl : L.length ≤ 1000000) (htl : t.length ≤ 1000000) (hbase : base ≤ w.heap.size)
  (h : ∀ v' w', w'.ownsRow base 3 1 v' (L ++ t).length (nflat (L ++ t)) → w.grownBy w' v.ownBlock → wpList Tryz.prog ops Q rest (a.put o.dst v') w') : wpList Tryz.prog ops Q (o :: rest) a w := by
 obtain ⟨i0, hi, hz0, hz1, hz2⟩ := info_parts num_info
 cases ta with
 | none =>
  have e : t = [] := by
   cases t with
   | nil => rfl
   | cons y t => obtain ⟨b, off, e, _⟩ := ht (by simp); cases e
  subst e;rw [htn rfl] at hx;refine wpList_append_own_none hgd s x 30 ho base 3 i0 1 Tryz.underlying30 hi v L.length (nflat L) hs hown hx (h v w ?_ ⟨rfl, rfl, rfl, Nat.le_refl _, fun _ _ _ => rfl⟩);rw [List.append_nil];exact hown
 | some ad =>
  refine wpList_append_own _ hgd s x 30 ho base 3 i0 _ 1 8 Tryz.underlying30 hi hz0 hz1 hz2 rfl (by decide) v L.length (nflat L) hs hown ad t.length tc (nflat t) hx (by rw [num_len, Nat.mul_one]) ?_ (num_one t) (by unfold maxLen; omega) (by omega) hbase ?_
  ·intro j u hj
   have hlt : j < t.length := by
    have := (List.getElem?_eq_some_iff.1 hj).1;rw [num_len] at this;exact this
   obtain ⟨b, off, e, _, hc⟩ := ht (by omega)
   cases e
   exact num_cells (n₀ := w.heap.size) ht j u hj
  ·intro v' w' h1 h2 _
   refine h v' w' ?_ h2;rw [nflat_app, List.length_append];exact h1
end
end Go.Proofs.YtlnodjcmdnmnlaaGreat
