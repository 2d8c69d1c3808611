/-
  THE WALKS of the reference's FindSet and Valid of houses (30), and of Valid of beams (19).
-/
import Derived.Test.YtbgkgahmicepdaaGreatP27
namespace Go.Proofs.YtbgkgahmicepdaaGreat
set_option maxRecDepth 100000
set_option maxHeartbeats 80000000
set_option linter.unusedSimpArgs false
section
open Go.RowKit Go.Shelf
attribute [local go_sem] Oper.semAt_some
theorem rfind_any (h : HouseR) (s : ByteArray) (w : World) (hh : HouseIn0 w h) (hl : h.sets.length ≤ 1000) :
  Calls Tryz.prog 52 #[.agg #[.string h.name, .int .i64 h.height, .slice h.sa h.sets.length h.sc, .slice h.ra h.roofs.length h.rc], .string s] w fun e w' => e = .returned (.int .i64 (findS h.sets s)) ∧ Below w.heap.size w w' := by
 have hb0 := below_new w (LHo h);have hat := HouseAt.new w h 25;have HH := lh (hh.sets.grow hb0);clear hh
 go_enter Tryz.func52, Tryz.ntmps52
 go_upto_region 2 with (fail)
 generalize w.alloc (LHo h) = W0 at *;have HB0 := lh hb0;obtain ⟨B, hB⟩ := nm (w.heap.size);rw [hB] at hat ⊢;obtain ⟨a0, a1, a2, a3⟩ := hat;obtain ⟨sa, hsa⟩ := nm (h.sa);rw [hsa] at a2 HH ⊢;clear hB hb0 hsa
 go_loop [5] (fun i => ∃ k : Nat, k ≤ h.sets.length ∧ i = .int .i64 k ∧ Hid (∀ j, j < k → decide ((hg h.sets j).name = s) = false)) (fun i => h.sets.length - (intOf i).toNat)
 case atStart => exact ⟨0, Nat.zero_le _, rfl, lh (fun _ h => absurd h (Nat.not_lt_zero _))⟩
 case round =>
  obtain ⟨k, hk, rfl, HA⟩ := hrel
  by_cases hlt : k < h.sets.length
  ·obtain ⟨b, off, rfl, hb, hc⟩ := HH.out (by omega)
   obtain ⟨d0, -⟩ := hc k hlt;have hs := str_eq (hg h.sets k).name s;clear hc
   by_cases hx : (hg h.sets k).name = s
   ·have H := lh (set_first_hit h.sets (fun r => decide (r.name = s)) k hlt (decide_eq_true hx) HA.out)
    rw [decide_eq_true hx] at hs;clear hx
    go_wp2_with fail
    go_ret;exact ⟨ret_int H.out.symm, HB0.out⟩
   ·rw [decide_eq_false hx] at hs
    have HB' : Hid (∀ j, j < k + 1 → decide ((hg h.sets j).name = s) = false) := lh fun j hj => by
     rcases Nat.lt_or_ge j k with l | l
     ·exact HA.out j l
     ·obtain rfl : j = k := by omega
      exact decide_eq_false hx
    clear hx
    go_wp2_with fail
    go_round
    case rel => exact ⟨k + 1, by omega, by go_num, HB'⟩
    case measure => simp [intOf]; omega
  ·obtain rfl : k = h.sets.length := by omega
   have H := lh (set_first_miss h.sets (fun r => decide (r.name = s)) HA.out)
   go_wp2_with fail
   go_ret;exact ⟨ret_int H.out.symm, HB0.out⟩
theorem rbetw19_any (n lo hi : Int) (w : World) :
  Calls Tryz.prog 116 #[.int .i64 n, .int .i64 lo, .int .i64 hi] w fun e w' => e = .returned (.bool (betB n lo hi)) ∧ w = w' := by
 have HR : Hid (betB n lo hi = (decide (lo ≤ n) && decide (n ≤ hi))) := lh rfl
 by_cases p1 : lo ≤ n
 ·have g1 : decide (lo ≤ n) = true := decide_eq_true p1
  rw [g1] at HR;clear p1
  go_enter Tryz.func116, Tryz.ntmps116
  go_wp2_with fail
  go_ret;exact ⟨ret_bool (by rw [HR.out]; rfl), rfl⟩
 ·have g1 : decide (lo ≤ n) = false := decide_eq_false p1
  rw [g1] at HR;clear p1
  go_enter Tryz.func116, Tryz.ntmps116
  go_wp2_with fail
  go_ret;exact ⟨ret_bool (by rw [HR.out]; rfl), rfl⟩
theorem rgrid_any (a : Option Addr) (L : List RoofR) (cap : Nat) (w : World) (hl : L.length ≤ 1000) (hL : Roofs w.heap.size w a L) :
  Calls Tryz.prog 95 #[.slice a L.length cap] w fun e w' => e = .returned (.bool (roofsB L)) ∧ Below w.heap.size w w' := by
 have HL := lh hL;clear hL
 by_cases h20 : 20 < L.length
 ·have HZ : Hid (roofsB L = false) := lh (by
   cases e : roofsB L
   ·rfl
   ·have := (roofsB_iff.1 e).1; omega)
  have g : decide ((20 : Int) < (L.length : Int)) = true := dT (by omega);clear h20
  go_enter Tryz.func95, Tryz.ntmps95
  go_wp2_with fail
  go_ret;exact ⟨ret_bool HZ.out.symm, br⟩
 have g : decide ((20 : Int) < (L.length : Int)) = false := dF (by omega)
 go_enter Tryz.func95, Tryz.ntmps95
 go_upto_region 4 with (fail)
 go_loopw [3, 4] (fun i _ wr => ∃ k : Nat, k ≤ L.length ∧ i = .int .i64 k ∧ Hid (∀ j, j < k → RoofAt L j) ∧ Below w.heap.size w wr) (fun i _ _ => L.length - (intOf i).toNat)
 case atStart => exact ⟨0, Nat.zero_le _, rfl, lh (fun _ h => absurd h (Nat.not_lt_zero _)), br⟩
 case round =>
  obtain ⟨k, hk, rfl, HA, hB⟩ := hrel
  by_cases hlt : k < L.length
  ·obtain ⟨b, off, ha, hb, hc⟩ := HL.out (by omega)
   subst ha;have hbs := hB.size;obtain ⟨e0, e1, e2, e3⟩ := hc k hlt;have d0 := (hB.cell (p := ⟨b, _, none⟩) hb).trans e0;have d1 := (hB.cell (p := ⟨b, _, none⟩) hb).trans e1;have d2 := (hB.cell (p := ⟨b, _, none⟩) hb).trans e2;have d3 := (hB.cell (p := ⟨b, _, none⟩) hb).trans e3;have HNO : Hid (¬ RoofAt L k → roofsB L = false) := lh fun n => roofs_no hlt n;have HNA : Hid (∀ j, j < k → RoofAt L j) := HA;have HC := lh hc;obtain ⟨x, hx⟩ := nm (rg L k);rw [hx] at d0 d1 d2 d3;have HXX := lh hx;have hx0 : ∀ wr : World, (wr.alloc (.cells #[.string x.name, .int .i64 x.lo, .int .i64 x.hi, .int .i64 x.most] 93)).cell? ⟨wr.heap.size, 0, none⟩ = some (.string x.name) := fun wr => by simp
   clear e0 e1 e2 e3 hc hx
   cases h1 : isNameB x.name
   case false =>
    have H1 := lh h1;have HZ := lh (HNO.out (fun q => by have := q.1.1; rw [HXX.out, H1.out] at this; cases this));clear h1
    go_upto_region 8 with (first
     | (go_at_call 94; (with_reducible refine (refisName_any x.name _).mono ?_); rintro e w1 ⟨rfl, rfl⟩; rw [H1.out]))
    go_wp2_with fail
    go_ret;exact ⟨ret_bool HZ.out.symm, hB.alloc (by omega) _⟩
   have H1 := lh h1;clear h1
   cases h2 : betB x.lo 0 x.hi
   case false =>
    have H2 := lh h2;have HZ := lh (HNO.out (fun q => by have := q.1; rw [HXX.out] at this; have := betB_iff.2 ⟨this.2.1, this.2.2.1⟩; rw [H2.out] at this; cases this));clear h2
    go_upto_region 8 with (first
     | (go_at_call 94; (with_reducible refine (refisName_any x.name _).mono ?_); rintro e w1 ⟨rfl, rfl⟩; rw [H1.out])
     | (go_at_call 116; (with_reducible refine (rbetw19_any x.lo 0 x.hi _).mono ?_); rintro e w1 ⟨rfl, rfl⟩; rw [H2.out]))
    go_wp2_with fail
    go_ret;exact ⟨ret_bool HZ.out.symm, hB.alloc (by omega) _⟩
   have H2 := lh h2;clear h2
   cases h3 : betB x.hi 0 1048576
   case false =>
    have H3 := lh h3;have HZ := lh (HNO.out (fun q => by have t := q.1; rw [HXX.out] at t; have := betB_iff.2 (show 0 ≤ x.hi ∧ x.hi ≤ 1048576 from ⟨by have t1 := t.2.1; have t2 := t.2.2.1; omega, t.2.2.2.1⟩); rw [H3.out] at this; cases this));clear h3
    go_upto_region 8 with (first
     | (go_at_call 94; (with_reducible refine (refisName_any x.name _).mono ?_); rintro e w1 ⟨rfl, rfl⟩; rw [H1.out])
     | (go_at_call 116; (with_reducible refine (rbetw19_any x.lo 0 x.hi _).mono ?_); rintro e w1 ⟨rfl, rfl⟩; rw [H2.out])
     | (go_at_call 116; (with_reducible refine (rbetw19_any x.hi 0 1048576 _).mono ?_); rintro e w1 ⟨rfl, rfl⟩; rw [H3.out]))
    go_wp2_with fail
    go_ret;exact ⟨ret_bool HZ.out.symm, hB.alloc (by omega) _⟩
   have H3 := lh h3;clear h3
   cases h4 : betB x.most 0 67108864
   case false =>
    have H4 := lh h4;have HZ := lh (HNO.out (fun q => by have := q.1; rw [HXX.out] at this; have := betB_iff.2 (show 0 ≤ x.most ∧ x.most ≤ 67108864 from ⟨this.2.2.2.2.1, this.2.2.2.2.2⟩); rw [H4.out] at this; cases this));clear h4
    go_upto_region 8 with (first
     | (go_at_call 94; (with_reducible refine (refisName_any x.name _).mono ?_); rintro e w1 ⟨rfl, rfl⟩; rw [H1.out])
     | (go_at_call 116; (with_reducible refine (rbetw19_any x.lo 0 x.hi _).mono ?_); rintro e w1 ⟨rfl, rfl⟩; rw [H2.out])
     | (go_at_call 116; (with_reducible refine (rbetw19_any x.hi 0 1048576 _).mono ?_); rintro e w1 ⟨rfl, rfl⟩; rw [H3.out])
     | (go_at_call 116; (with_reducible refine (rbetw19_any x.most 0 67108864 _).mono ?_); rintro e w1 ⟨rfl, rfl⟩; rw [H4.out]))
    go_wp2_with fail
    go_ret;exact ⟨ret_bool HZ.out.symm, hB.alloc (by omega) _⟩
   have H4 := lh h4;clear h4
   have HOK : Hid (RoofOK (rg L k)) := lh (by
    rw [HXX.out];exact ⟨H1.out, (betB_iff.1 H2.out).1, (betB_iff.1 H2.out).2, (betB_iff.1 H3.out).2, (betB_iff.1 H4.out).1, (betB_iff.1 H4.out).2⟩)
   go_upto_region 10 with (first
    | (go_at_call 94; (with_reducible refine (refisName_any x.name _).mono ?_); rintro e w1 ⟨rfl, rfl⟩; rw [H1.out])
    | (go_at_call 116; (with_reducible refine (rbetw19_any x.lo 0 x.hi _).mono ?_); rintro e w1 ⟨rfl, rfl⟩; rw [H2.out])
    | (go_at_call 116; (with_reducible refine (rbetw19_any x.hi 0 1048576 _).mono ?_); rintro e w1 ⟨rfl, rfl⟩; rw [H3.out])
    | (go_at_call 116; (with_reducible refine (rbetw19_any x.most 0 67108864 _).mono ?_); rintro e w1 ⟨rfl, rfl⟩; rw [H4.out]))
   have hB2 : Below w.heap.size w (wr.alloc (.cells #[.string x.name, .int .i64 x.lo, .int .i64 x.hi, .int .i64 x.most] 93)) := hB.alloc (by omega) _;have z0 := hx0 wr;clear d0 d1 d2 d3 hx0 hB;generalize wr.alloc (.cells #[.string x.name, .int .i64 x.lo, .int .i64 x.hi, .int .i64 x.most] 93) = w4 at *;obtain ⟨B4, hB4⟩ := nm (wr.heap.size);rw [hB4] at z0 ⊢;have hlt4 : B4 < w4.heap.size := wl z0;have Z0 := lh z0;clear hB4 hbs z0;obtain ⟨wo, rfl⟩ : ∃ wo : World, wo = wr := ⟨_, rfl⟩
   go_loopw [5] (fun i wr => ∃ m : Nat, m ≤ k ∧ i = .int .i64 m ∧ Hid (∀ j, j < m → (rg L j).name ≠ x.name) ∧ Below w.heap.size w wr ∧ Below w4.heap.size w4 wr) (fun i _ => k - (intOf i).toNat)
   case atStart => exact ⟨0, Nat.zero_le _, rfl, lh (fun _ h => absurd h (Nat.not_lt_zero _)), hB2, br⟩
   case round =>
    clear hB2;obtain ⟨m, hm, rfl, HM, hB, hB4⟩ := hrel
    by_cases hlm : m < k
    ·obtain ⟨e0, -⟩ := HC.out m (by omega)
     have d0 := (hB.cell (p := ⟨b, _, none⟩) hb).trans e0;have z0 := (hB4.cell (p := ⟨B4, 0, none⟩) hlt4).trans Z0.out;have hs := str_eq (rg L m).name x.name;have i0 : 0 ≤ (m : Int) := by omega
     have i1 : (m : Int) < (L.length : Int) := by omega
     have i2 : (m : Int) < (k : Int) := by omega
     clear e0
     by_cases hx : (rg L m).name = x.name
     ·have HZ := lh (HNO.out fun q => q.2 m hlm (by rw [HXX.out]; exact hx))
      rw [decide_eq_true hx] at hs;clear hx
      go_upto_region 12 with (fail)
      go_quiet (fail)
      go_wp2_with fail
      go_ret;exact ⟨ret_bool HZ.out.symm, below_drewN hB _⟩
     ·rw [decide_eq_false hx] at hs
      have HM2 : Hid (∀ j, j < m + 1 → (rg L j).name ≠ x.name) := lh fun j hj => by
       rcases Nat.lt_or_ge j m with l | l
       ·exact HM.out j l
       ·obtain rfl : j = m := by omega
        exact hx
      clear hx
      go_upto_region 12 with (fail)
      go_quiet (fail)
      go_wp2_with fail
      go_roundw
      case rel => exact ⟨m + 1, by omega, by go_num, HM2, below_drewN hB _, below_drewN hB4 _⟩
      case measure => simp [intOf]; omega
    ·obtain rfl : m = k := by omega
     have HN : Hid (∀ j, j < m + 1 → RoofAt L j) := lh fun j hj => by
      rcases Nat.lt_or_ge j m with l | l
      ·exact HNA.out j l
      ·obtain rfl : j = m := by omega
       exact ⟨HOK.out, fun i hi => by rw [HXX.out]; exact HM.out i hi⟩
     go_wp2_with fail
     go_roundw
     case rel => exact ⟨m + 1, by omega, by go_num, HN, hB⟩
     case measure => simp [intOf]; omega
  ·obtain rfl : k = L.length := by omega
   have HZ : Hid (roofsB L = true) := lh (roofsB_iff.2 ⟨by omega, HA.out⟩)
   go_wp2_with fail
   go_ret;exact ⟨ret_bool HZ.out.symm, hB⟩
theorem rhouse_any (h : HouseR) (w : World) (hh : HouseIn w h) :
  Calls Tryz.prog 50 #[.agg #[.string h.name, .int .i64 h.height, .slice h.sa h.sets.length h.sc, .slice h.ra h.roofs.length h.rc]] w fun e w' => e = .returned (.bool (houseB h)) ∧ Below w.heap.size w w' := by
 have hb0 := below_new w (LHo h);have hl := hh.slen;have hcap := hh.scap;have HX : Hid (∀ w', Below (w.alloc (LHo h)).heap.size (w.alloc (LHo h)) w' → HouseAt w' w.heap.size h ∧ HouseIn w' h ∧ Below w.heap.size w w') := lh fun w' q => ⟨(HouseAt.new w h _).carry q, (hh.grow hb0).grow q, hb0.trans (q.mono hb0.size)⟩
 have HNO : Hid ((¬ (isNameB h.name = true ∧ 1 ≤ h.height ∧ h.height ≤ 1048576 ∧ h.sets.length ≤ 60 ∧ RoofsOK h.roofs)) → houseB h = false) := lh fun n => by
  cases e : houseB h
  ·rfl
  ·obtain ⟨a, b, c, d, e, _⟩ := houseB_iff.1 e
   exact absurd ⟨a, b, c, d, e⟩ n
 clear hh hb0
 cases h1 : isNameB h.name
 case false =>
  have H1 := lh h1;have HZ := lh (HNO.out (fun q => by have := q.1; rw [H1.out] at this; cases this))
  go_enter Tryz.func50, Tryz.ntmps50
  go_upto_region 1 with (fail)
  generalize w.alloc (LHo h) = W0 at *;obtain ⟨⟨a0, a1, a2, a3⟩, -, -⟩ := HX.out _ br
  go_wp2_with (go_at_call 94; (with_reducible refine (refisName_any h.name _).mono ?_); rintro e w1 ⟨rfl, rfl⟩; rw [H1.out])
  go_ret;exact ⟨ret_bool HZ.out.symm, (HX.out _ br).2.2⟩
 have H1 := lh h1
 cases h2 : decide (h.height < 1)
 case true =>
  have H2 := lh h2;have HZ := lh (HNO.out (fun q => by have := of_decide_eq_true H2.out; omega))
  go_enter Tryz.func50, Tryz.ntmps50
  go_upto_region 1 with (fail)
  generalize w.alloc (LHo h) = W0 at *;obtain ⟨⟨a0, a1, a2, a3⟩, -, -⟩ := HX.out _ br
  go_wp2_with (go_at_call 94; (with_reducible refine (refisName_any h.name _).mono ?_); rintro e w1 ⟨rfl, rfl⟩; rw [H1.out])
  go_ret;exact ⟨ret_bool HZ.out.symm, (HX.out _ br).2.2⟩
 have H2 := lh h2
 cases h3 : decide (1048576 < h.height)
 case true =>
  have H3 := lh h3;have HZ := lh (HNO.out (fun q => by have := of_decide_eq_true H3.out; omega))
  go_enter Tryz.func50, Tryz.ntmps50
  go_upto_region 1 with (fail)
  generalize w.alloc (LHo h) = W0 at *;obtain ⟨⟨a0, a1, a2, a3⟩, -, -⟩ := HX.out _ br
  go_wp2_with (go_at_call 94; (with_reducible refine (refisName_any h.name _).mono ?_); rintro e w1 ⟨rfl, rfl⟩; rw [H1.out])
  go_ret;exact ⟨ret_bool HZ.out.symm, (HX.out _ br).2.2⟩
 have H3 := lh h3
 cases h4 : decide ((60 : Int) < (h.sets.length : Int))
 case true =>
  have H4 := lh h4;have HZ := lh (HNO.out (fun q => by have := of_decide_eq_true H4.out; omega))
  go_enter Tryz.func50, Tryz.ntmps50
  go_upto_region 1 with (fail)
  generalize w.alloc (LHo h) = W0 at *;obtain ⟨⟨a0, a1, a2, a3⟩, -, -⟩ := HX.out _ br
  go_wp2_with (go_at_call 94; (with_reducible refine (refisName_any h.name _).mono ?_); rintro e w1 ⟨rfl, rfl⟩; rw [H1.out])
  go_ret;exact ⟨ret_bool HZ.out.symm, (HX.out _ br).2.2⟩
 have H4 := lh h4
 cases h5 : roofsB h.roofs
 case false =>
  have H5 := lh h5;have HZ := lh (HNO.out (fun q => by have := roofsB_iff.2 q.2.2.2.2; rw [H5.out] at this; cases this))
  go_enter Tryz.func50, Tryz.ntmps50
  go_upto_region 1 with (fail)
  generalize w.alloc (LHo h) = W0 at *;obtain ⟨⟨a0, a1, a2, a3⟩, -, -⟩ := HX.out _ br
  go_wp2_with (first
   | (go_at_call 94; (with_reducible refine (refisName_any h.name _).mono ?_); rintro e w1 ⟨rfl, rfl⟩; rw [H1.out])
   | (go_at_call 95; (with_reducible refine (rgrid_any _ h.roofs _ _ (HX.out _ br).2.1.rlen (HX.out _ br).2.1.roofs).mono ?_); rintro e w1 ⟨rfl, hb1⟩; rw [H5.out]))
  go_ret;exact ⟨ret_bool HZ.out.symm, (HX.out _ hb1).2.2⟩
 have H5 := lh h5;have HOK : Hid (isNameB h.name = true ∧ 1 ≤ h.height ∧ h.height ≤ 1048576 ∧ h.sets.length ≤ 60 ∧ RoofsOK h.roofs) := lh ⟨H1.out, by have := of_decide_eq_false H2.out; omega, by have := of_decide_eq_false H3.out; omega, by have := of_decide_eq_false H4.out; omega, roofsB_iff.1 H5.out⟩;clear HNO
 go_enter Tryz.func50, Tryz.ntmps50
 go_upto_region 1 with (fail)
 generalize w.alloc (LHo h) = W0 at *;obtain ⟨⟨a0, a1, a2, a3⟩, -, -⟩ := HX.out _ br
 go_upto_region 4 with (first
  | (go_at_call 94; (with_reducible refine (refisName_any h.name _).mono ?_); rintro e w1 ⟨rfl, rfl⟩; rw [H1.out])
  | (go_at_call 95; (with_reducible refine (rgrid_any _ h.roofs _ _ (HX.out _ br).2.1.rlen (HX.out _ br).2.1.roofs).mono ?_); rintro e w1 ⟨rfl, hb1⟩; rw [H5.out]))
 clear a0 a1 a2 a3 h1 h2 h3 h4 h5;obtain ⟨B, hBB⟩ := nm (w.heap.size);have HW : Hid (∀ w', Below W0.heap.size W0 w' → Below w.heap.size w w') := lh fun w' q => (HX.out w' q).2.2;rw [hBB] at HX ⊢;have HA : Hid (∀ w', Below W0.heap.size W0 w' → HouseAt w' B h) := lh fun w' q => (HX.out w' q).1;have HH : Hid (∀ w', Below W0.heap.size W0 w' → HouseIn0 w' h) := lh fun w' q => (HX.out w' q).2.1.toHouseIn0;have HALL : Hid (∀ w', Below W0.heap.size W0 w' → ∀ i, i < h.sets.length → SetIn w' (hg h.sets i)) := lh fun w' q => (HX.out w' q).2.1.all;have x0 : ∀ w', Below W0.heap.size W0 w' → w'.cell? ⟨B, 0, none⟩ = some (.string h.name) := fun w' q => (HA.out w' q).1;have x1 : ∀ w', Below W0.heap.size W0 w' → w'.cell? ⟨B, 1, none⟩ = some (.int .i64 h.height) := fun w' q => (HA.out w' q).2.1;have x2 : ∀ w', Below W0.heap.size W0 w' → w'.cell? ⟨B, 2, none⟩ = some (.slice h.sa h.sets.length h.sc) := fun w' q => (HA.out w' q).2.2.1;have x3 : ∀ w', Below W0.heap.size W0 w' → w'.cell? ⟨B, 3, none⟩ = some (.slice h.ra h.roofs.length h.rc) := fun w' q => (HA.out w' q).2.2.2;clear HX hBB
 go_loopw [3] (fun i wr => ∃ k : Nat, k ≤ h.sets.length ∧ i = .int .i64 k ∧ Hid (∀ j, j < k → SetAtOK h j) ∧ Below W0.heap.size W0 wr) (fun i _ => h.sets.length - (intOf i).toNat)
 case atStart => exact ⟨0, Nat.zero_le _, rfl, lh (fun _ h => absurd h (Nat.not_lt_zero _)), hb1⟩
 case round =>
  clear hb1;obtain ⟨k, hk, rfl, HO, hB⟩ := hrel
  by_cases hlt : k < h.sets.length
  ·have HNK : Hid (¬ SetAtOK h k → houseB h = false) := lh fun n => house_no hlt n
   have HSET : Hid (∀ w', Below W0.heap.size W0 w' → SetIn w' (hg h.sets k)) := lh fun w' q => HALL.out w' q k hlt;have HFA := lh (find_at hlt);obtain ⟨b, off, hsa, hb, -⟩ := (HH.out W0 br).sets (by omega);have HSA := lh hsa
   have y0 : ∀ w', Below W0.heap.size W0 w' → w'.cell? ⟨b, off + k * 13, none⟩ = some (.string (hg h.sets k).name) := fun w' q => by
    obtain ⟨b', off', e, -, hc⟩ := (HH.out w' q).sets (by omega);rw [HSA.out] at e
    cases e
    exact (hc k hlt).1
   have y1 : ∀ w', Below W0.heap.size W0 w' → w'.cell? ⟨b, off + k * 13 + 1, none⟩ = some (.int .i64 (hg h.sets k).depth) := fun w' q => by
    obtain ⟨b', off', e, -, hc⟩ := (HH.out w' q).sets (by omega);rw [HSA.out] at e
    cases e
    exact (hc k hlt).2.1
   have y2 : ∀ w', Below W0.heap.size W0 w' → w'.cell? ⟨b, off + k * 13 + 2, none⟩ = some (.int .i64 (hg h.sets k).low) := fun w' q => by
    obtain ⟨b', off', e, -, hc⟩ := (HH.out w' q).sets (by omega);rw [HSA.out] at e
    cases e
    exact (hc k hlt).2.2.1
   have y3 : ∀ w', Below W0.heap.size W0 w' → w'.cell? ⟨b, off + k * 13 + 3, none⟩ = some (.int .i64 (hg h.sets k).high) := fun w' q => by
    obtain ⟨b', off', e, -, hc⟩ := (HH.out w' q).sets (by omega);rw [HSA.out] at e
    cases e
    exact (hc k hlt).2.2.2.1
   have y4 : ∀ w', Below W0.heap.size W0 w' → w'.cell? ⟨b, off + k * 13 + 4, none⟩ = some (.int .i64 (hg h.sets k).length) := fun w' q => by
    obtain ⟨b', off', e, -, hc⟩ := (HH.out w' q).sets (by omega);rw [HSA.out] at e
    cases e
    exact (hc k hlt).2.2.2.2.1
   have y5 : ∀ w', Below W0.heap.size W0 w' → w'.cell? ⟨b, off + k * 13 + 5, none⟩ = some (.slice (hg h.sets k).la (hg h.sets k).lines.length (hg h.sets k).lc) := fun w' q => by
    obtain ⟨b', off', e, -, hc⟩ := (HH.out w' q).sets (by omega);rw [HSA.out] at e
    cases e
    exact (hc k hlt).2.2.2.2.2.1
   have y6 : ∀ w', Below W0.heap.size W0 w' → w'.cell? ⟨b, off + k * 13 + 6, none⟩ = some (.int .i64 (hg h.sets k).pipe) := fun w' q => by
    obtain ⟨b', off', e, -, hc⟩ := (HH.out w' q).sets (by omega);rw [HSA.out] at e
    cases e
    exact (hc k hlt).2.2.2.2.2.2.1
   have y7 : ∀ w', Below W0.heap.size W0 w' → w'.cell? ⟨b, off + k * 13 + 7, none⟩ = some (.int .i64 (hg h.sets k).arbor) := fun w' q => by
    obtain ⟨b', off', e, -, hc⟩ := (HH.out w' q).sets (by omega);rw [HSA.out] at e
    cases e
    exact (hc k hlt).2.2.2.2.2.2.2.1
   have y8 : ∀ w', Below W0.heap.size W0 w' → w'.cell? ⟨b, off + k * 13 + 8, none⟩ = some (.int .i64 (hg h.sets k).purchase) := fun w' q => by
    obtain ⟨b', off', e, -, hc⟩ := (HH.out w' q).sets (by omega);rw [HSA.out] at e
    cases e
    exact (hc k hlt).2.2.2.2.2.2.2.2.1
   have y9 : ∀ w', Below W0.heap.size W0 w' → w'.cell? ⟨b, off + k * 13 + 9, none⟩ = some (.int .i64 (hg h.sets k).most) := fun w' q => by
    obtain ⟨b', off', e, -, hc⟩ := (HH.out w' q).sets (by omega);rw [HSA.out] at e
    cases e
    exact (hc k hlt).2.2.2.2.2.2.2.2.2.1
   have y10 : ∀ w', Below W0.heap.size W0 w' → w'.cell? ⟨b, off + k * 13 + 10, none⟩ = some (.int .i64 (hg h.sets k).brake) := fun w' q => by
    obtain ⟨b', off', e, -, hc⟩ := (HH.out w' q).sets (by omega);rw [HSA.out] at e
    cases e
    exact (hc k hlt).2.2.2.2.2.2.2.2.2.2.1
   have y11 : ∀ w', Below W0.heap.size W0 w' → w'.cell? ⟨b, off + k * 13 + 11, none⟩ = some (.slice (hg h.sets k).ia (hg h.sets k).items.length (hg h.sets k).ic) := fun w' q => by
    obtain ⟨b', off', e, -, hc⟩ := (HH.out w' q).sets (by omega);rw [HSA.out] at e
    cases e
    exact (hc k hlt).2.2.2.2.2.2.2.2.2.2.2.1
   have y12 : ∀ w', Below W0.heap.size W0 w' → w'.cell? ⟨b, off + k * 13 + 12, none⟩ = some (.slice (hg h.sets k).ba (hg h.sets k).bricks.length (hg h.sets k).bc) := fun w' q => by
    obtain ⟨b', off', e, -, hc⟩ := (HH.out w' q).sets (by omega);rw [HSA.out] at e
    cases e
    exact (hc k hlt).2.2.2.2.2.2.2.2.2.2.2.2
   have HFS := lh fun w' (q : HouseIn0 w' h) => rfind_any h (hg h.sets k).name w' q hl;rw [hsa] at x2 HFS;clear hsa;have i0 : 0 ≤ (k : Int) := by omega
   have i1 : (k : Int) < (h.sets.length : Int) := by omega
   have HN : Hid (SetAtOK h k → ∀ j, j < k + 1 → SetAtOK h j) := lh fun q j hj => by
    rcases Nat.lt_or_ge j k with l | l
    ·exact HO.out j l
    ·obtain rfl : j = k := by omega
     exact q
   have HDEF : Hid (SetAtOK h k ↔ setB (hg h.sets k) = true ∧ (hg h.sets k).high ≤ h.height ∧ findS h.sets (hg h.sets k).name = (k : Int)) := lh ⟨fun q => ⟨q.1, q.2.1, HFA.out.2 q.2.2⟩, fun q => ⟨q.1, q.2.1, HFA.out.1 q.2.2⟩⟩;obtain ⟨x, hx⟩ := nm (hg h.sets k);rw [hx] at y0 y1 y2 y3 y4 y5 y6 y7 y8 y9 y10 y11 y12 HSET HDEF HFS;clear hx HFA
   go_upto_region 6 with (fail)
   cases hv : setB x
   case false =>
    have HV := lh hv;have HZ := lh (HNK.out fun q => by have := (HDEF.out.1 q).1; rw [HV.out] at this; cases this);clear hv;refine wp_region_held_drew (S := (fun w' => Below W0.heap.size W0 w')) (by kernel_rfl) (hB.drew) (fun hHeld => ?_);refine tk 0 ?_; refine tk 1 ?_; refine tk 2 ?_; refine tk 3 ?_; refine tk 4 ?_;refine r1 5 (fun K hK => ?_)
    try simp only [s_4, s_5, s_6]
    go_simp
    (go_at_call 96; go_split_ands; (with_reducible refine (rvalid_any x _ (HSET.out _ hHeld)).mono ?_); rintro e w5 ⟨rfl, hb5⟩; rw [HV.out])
    go_wp2_with fail
    refine hK.out _ _ (hHeld.trans (hb5.mono hHeld.size)) (fun hHeld => ?_);clear hK K
    try simp only [Act.put, s_1, s_2, s_3, s_4, s_5, s_6]
    refine tk 6 ?_; refine tk 7 ?_; refine sk 8 ?_; refine sk 9 ?_; refine sk 10 ?_; refine sk 11 ?_; refine sk 12 ?_; refine sk 13 ?_; refine sk 14 ?_; refine sk 15 ?_; refine sk 16 ?_; refine tk 17 ?_; refine tk 18 ?_; refine sk 19 ?_; refine sk 20 ?_; refine sk 21 ?_; refine sk 22 ?_; refine sk 23 ?_; refine sk 24 ?_; refine sk 25 ?_; refine sk 26 ?_; refine sk 27 ?_; refine sk 28 ?_; refine tk 29 ?_;refine wpAnyH_done (by kernel_rfl) ?_ _
    go_wp2_with fail
    go_ret;exact ⟨ret_bool HZ.out.symm, HW.out _ hHeld⟩
   have HV := lh hv;clear hv
   cases hg1 : decide (h.height < x.high)
   case true =>
    have HZ := lh (HNK.out fun q => by have := (HDEF.out.1 q).2.1; have e := of_decide_eq_true hg1; omega);refine wp_region_held_drew (S := (fun w' => Below W0.heap.size W0 w')) (by kernel_rfl) (hB.drew) (fun hHeld => ?_);refine tk 0 ?_; refine tk 1 ?_; refine tk 2 ?_; refine tk 3 ?_; refine tk 4 ?_;refine r1 5 (fun K hK => ?_)
    try simp only [s_4, s_5, s_6]
    go_simp
    (go_at_call 96; go_split_ands; (with_reducible refine (rvalid_any x _ (HSET.out _ hHeld)).mono ?_); rintro e w5 ⟨rfl, hb5⟩; rw [HV.out])
    go_wp2_with fail
    refine hK.out _ _ (hHeld.trans (hb5.mono hHeld.size)) (fun hHeld => ?_);clear hK K
    try simp only [Act.put, s_1, s_2, s_3, s_4, s_5, s_6]
    refine tk 6 ?_; refine tk 7 ?_; refine tk 8 ?_; refine tk 9 ?_; refine tk 10 ?_; refine tk 11 ?_; refine tk 12 ?_; refine tk 13 ?_; refine tk 14 ?_; refine tk 15 ?_; refine tk 16 ?_; refine tk 17 ?_; refine tk 18 ?_; refine sk 19 ?_; refine sk 20 ?_; refine sk 21 ?_; refine sk 22 ?_; refine sk 23 ?_; refine sk 24 ?_; refine sk 25 ?_; refine sk 26 ?_; refine sk 27 ?_; refine sk 28 ?_; refine tk 29 ?_;refine wpAnyH_done (by kernel_rfl) ?_ _
    go_wp2_with fail
    go_ret;exact ⟨ret_bool HZ.out.symm, HW.out _ hHeld⟩
   have HG := lh (of_decide_eq_false hg1)
   by_cases hf : findS h.sets x.name = (k : Int)
   ·have HF := lh hf
    have HN2 := lh (HN.out (HDEF.out.2 ⟨HV.out, by have := HG.out; omega, hf⟩));clear hf;refine wp_region_held_drew (S := (fun w' => Below W0.heap.size W0 w')) (by kernel_rfl) (hB.drew) (fun hHeld => ?_);refine tk 0 ?_; refine tk 1 ?_; refine tk 2 ?_; refine tk 3 ?_; refine tk 4 ?_;refine r1 5 (fun K hK => ?_)
    try simp only [s_4, s_5, s_6]
    go_simp
    (go_at_call 96; go_split_ands; (with_reducible refine (rvalid_any x _ (HSET.out _ hHeld)).mono ?_); rintro e w5 ⟨rfl, hb5⟩; rw [HV.out])
    go_wp2_with fail
    refine hK.out _ _ (hHeld.trans (hb5.mono hHeld.size)) (fun hHeld => ?_);clear hK K
    try simp only [Act.put, s_1, s_2, s_3, s_4, s_5, s_6]
    refine tk 6 ?_; refine tk 7 ?_; refine tk 8 ?_; refine tk 9 ?_; refine tk 10 ?_; refine tk 11 ?_; refine tk 12 ?_; refine tk 13 ?_; refine tk 14 ?_; refine tk 15 ?_; refine tk 16 ?_; refine tk 17 ?_; refine tk 18 ?_; refine tk 19 ?_; refine tk 20 ?_; refine tk 21 ?_; refine tk 22 ?_; refine tk 23 ?_; refine tk 24 ?_; refine tk 25 ?_; refine tk 27 ?_;refine r1 26 (fun K hK => ?_)
    try simp only [s_4, s_5, s_6]
    go_simp
    (go_at_call 52; go_split_ands; (with_reducible refine (HFS.out _ (HH.out _ hHeld)).mono ?_); rintro e w6 ⟨rfl, hb6⟩; rw [HF.out])
    go_wp2_with fail
    refine hK.out _ _ (hHeld.trans (hb6.mono hHeld.size)) (fun hHeld => ?_);clear hK K
    try simp only [Act.put, s_1, s_2, s_3, s_4, s_5, s_6]
    refine tk 28 ?_; refine tk 29 ?_;refine wpAnyH_done (by kernel_rfl) ?_ _
    go_wp2_with fail
    go_roundw
    case rel => exact ⟨k + 1, by omega, by go_num, HN2, hHeld⟩
    case measure => simp [intOf]; omega
   ·have HZ := lh (HNK.out fun q => hf (HDEF.out.1 q).2.2)
    obtain ⟨j, hj⟩ := nm (findS h.sets x.name);rw [hj] at hf;have HF := lh hj;have g3 : (j != (k : Int)) = true := bne_iff_ne.2 hf;clear hj hf;refine wp_region_held_drew (S := (fun w' => Below W0.heap.size W0 w')) (by kernel_rfl) (hB.drew) (fun hHeld => ?_);refine tk 0 ?_; refine tk 1 ?_; refine tk 2 ?_; refine tk 3 ?_; refine tk 4 ?_;refine r1 5 (fun K hK => ?_)
    try simp only [s_4, s_5, s_6]
    go_simp
    (go_at_call 96; go_split_ands; (with_reducible refine (rvalid_any x _ (HSET.out _ hHeld)).mono ?_); rintro e w5 ⟨rfl, hb5⟩; rw [HV.out])
    go_wp2_with fail
    refine hK.out _ _ (hHeld.trans (hb5.mono hHeld.size)) (fun hHeld => ?_);clear hK K
    try simp only [Act.put, s_1, s_2, s_3, s_4, s_5, s_6]
    refine tk 6 ?_; refine tk 7 ?_; refine tk 8 ?_; refine tk 9 ?_; refine tk 10 ?_; refine tk 11 ?_; refine tk 12 ?_; refine tk 13 ?_; refine tk 14 ?_; refine tk 15 ?_; refine tk 16 ?_; refine tk 17 ?_; refine tk 18 ?_; refine tk 19 ?_; refine tk 20 ?_; refine tk 21 ?_; refine tk 22 ?_; refine tk 23 ?_; refine tk 24 ?_; refine tk 25 ?_; refine tk 27 ?_;refine r1 26 (fun K hK => ?_)
    try simp only [s_4, s_5, s_6]
    go_simp
    (go_at_call 52; go_split_ands; (with_reducible refine (HFS.out _ (HH.out _ hHeld)).mono ?_); rintro e w6 ⟨rfl, hb6⟩; rw [HF.out])
    go_wp2_with fail
    refine hK.out _ _ (hHeld.trans (hb6.mono hHeld.size)) (fun hHeld => ?_);clear hK K
    try simp only [Act.put, s_1, s_2, s_3, s_4, s_5, s_6]
    refine tk 28 ?_; refine tk 29 ?_;refine wpAnyH_done (by kernel_rfl) ?_ _
    go_wp2_with fail
    go_ret;exact ⟨ret_bool HZ.out.symm, HW.out _ hHeld⟩
  ·obtain rfl : k = h.sets.length := by omega
   have HZ : Hid (houseB h = true) := lh (houseB_iff.2 ⟨HOK.out.1, HOK.out.2.1, HOK.out.2.2.1, HOK.out.2.2.2.1, HOK.out.2.2.2.2, HO.out⟩)
   go_wp2_with fail
   go_ret;exact ⟨ret_bool HZ.out.symm, HW.out _ hB⟩
end
section
section
variable {P : Program} {ops : Array Oper} {Q : Exit → Act → World → Prop} {md : Region.Mode} {S : World → Prop}
theorem ry (rs : List Nat) {fuel : Nat} {listed : Array Bool} {a : Act} {w : World} (h : AllReadyH P md ops Q S fuel listed a w rs) (hr : Region.ready md ops listed = rs := by kernel_rfl) (hne : rs ≠ [] := by simp) : wpAnyH P md ops Q S (fuel + 1) listed a w := wpAnyH_ready hr hne h
theorem nl {fuel : Nat} {listed : Array Bool} {a : Act} {w : World} : AllReadyH P md ops Q S fuel listed a w [] := AllReadyH.nil
theorem dn {fuel : Nat} {listed : Array Bool} {a : Act} {w : World} (h : Q .normal a w) (hr : Region.ready md ops listed = [] := by kernel_rfl) : wpAnyH P md ops Q S fuel listed a w := wpAnyH_done hr h fuel
theorem vl_core {i : Nat} {oi : Oper} {n : Next} {v : Value} {fuel : Nat} {listed : Array Bool} {a a' : Act} {w w1 : World} {rs : List Nat} (hS : S w1)
  (h : S w1 → wpAnyH P md ops Q S fuel (listed.setIfInBounds i true) a' w1) (hs : AllReadyH P md ops Q S fuel listed a w rs)
  (hi : ops[i]? = some oi) (hg : Region.wanted oi (yielded ops a.tmps) = true)
  (hx : (execOp a.eval oi).run P w = .ok n w1) (hn : (n = .value v) ∨ (n = .skip ∧ v = undef)) (ha : a.put oi.dst v = a') : AllReadyH P md ops Q S fuel listed a w (i :: rs) := by
 refine AllReadyH.cons (o := oi) hi (fun K hK => ?_) hs;rw [if_pos hg];unfold Oper.wp;rw [hx];rcases hn with rfl | ⟨rfl, rfl⟩
 ·rw [Oper.upon_value]; exact hK.out _ _ hS (fun hS => by rw [ha]; exact h hS)
 ·rw [Oper.upon_skip]; exact hK.out _ _ hS (fun hS => by rw [ha]; exact h hS)
theorem rc_core {i : Nat} {oi : Oper} {f : FuncId} {args : Array Value} {V : Value} {X : World → Prop} {fuel : Nat} {listed : Array Bool} {a a' : Act} {w : World} {rs : List Nat}
  (hc : Calls P f args w fun e w' => e = .returned V ∧ X w') (hn : ∀ w', X w' → S w')
  (h : ∀ w', X w' → S w' → wpAnyH P md ops Q S fuel (listed.setIfInBounds i true) a' w') (hs : AllReadyH P md ops Q S fuel listed a w rs)
  (hi : ops[i]? = some oi) (hg : Region.wanted oi (yielded ops a.tmps) = true)
  (hx : (execOp a.eval oi).run P w = .ok (.enter f args) w) (ha : a.put oi.dst V = a') : AllReadyH P md ops Q S fuel listed a w (i :: rs) := by
 refine AllReadyH.cons (o := oi) hi (fun K hK => ?_) hs;rw [if_pos hg];unfold Oper.wp;rw [hx, Oper.upon_enter];refine hc.mono ?_;rintro e w' ⟨rfl, hX⟩;exact hK.out _ _ (hn w' hX) (fun hS => by rw [ha]; exact h w' hX hS)
theorem rc (i : Nat) {oi : Oper} {f : FuncId} {args : Array Value} {V : Value} {X : World → Prop} {fuel : Nat} {listed : Array Bool} {a a' : Act} {w : World} {rs : List Nat}
  (hc : Calls P f args w fun e w' => e = .returned V ∧ X w') (hn : ∀ w', X w' → S w')
  (h : ∀ w', X w' → S w' → wpAnyH P md ops Q S fuel (listed.setIfInBounds i true) a' w') (hs : AllReadyH P md ops Q S fuel listed a w rs)
  (hi : ops[i]? = some oi := by first | (simp only [List.getElem?_toArray, List.getElem?_cons_zero]; rfl) | (simp only [List.getElem?_toArray, List.getElem?_cons_succ, List.getElem?_cons_zero]; rfl))
  (hg : Region.wanted oi (yielded ops a.tmps) = true := by rfl)
  (hx : (execOp a.eval oi).run P w = .ok (.enter f args) w := by (try simp only [s_4, s_5, s_6]); go_simp)
  (ha : a.put oi.dst V = a' := by simp only [Act.put, List.setIfInBounds_toArray, List.set_cons_zero, List.set_cons_succ, List.getElem_toArray, List.getElem_cons_succ, List.getElem_cons_zero]; rfl) : AllReadyH P md ops Q S fuel listed a w (i :: rs) :=
 rc_core hc hn h hs hi hg hx ha
theorem cl (i : Nat) {oi : Oper} {f : FuncId} {args : Array Value} {V : Value} {X : World → Prop} {fuel : Nat} {listed : Array Bool} {a a' : Act} {w : World}
  (hc : Calls P f args w fun e w' => e = .returned V ∧ X w') (hn : ∀ w', X w' → S w')
  (h : ∀ w', X w' → S w' → wpAnyH P md ops Q S fuel (listed.setIfInBounds i true) a' w')
  (hi : ops[i]? = some oi := by first | (simp only [List.getElem?_toArray, List.getElem?_cons_zero]; rfl) | (simp only [List.getElem?_toArray, List.getElem?_cons_succ, List.getElem?_cons_zero]; rfl))
  (hr : Region.ready md ops listed = [i] := by kernel_rfl) (hg : Region.wanted oi (yielded ops a.tmps) = true := by rfl)
  (hx : (execOp a.eval oi).run P w = .ok (.enter f args) w := by (try simp only [s_4, s_5, s_6]); go_simp)
  (ha : a.put oi.dst V = a' := by simp only [Act.put, List.setIfInBounds_toArray, List.set_cons_zero, List.set_cons_succ, List.getElem_toArray, List.getElem_cons_succ, List.getElem_cons_zero]; rfl) : wpAnyH P md ops Q S (fuel + 1) listed a w :=
 wpAnyH_ready hr (by simp) (rc_core hc hn h AllReadyH.nil hi hg hx ha)
theorem clE (i : Nat) {oi : Oper} {f : FuncId} {args : Array Value} {X : Value → World → Prop} {fuel : Nat} {listed : Array Bool} {a : Act} {a' : Value → Act} {w : World}
  (hc : Calls P f args w fun e w' => ∃ V, e = .returned V ∧ X V w') (hn : ∀ V w', X V w' → S w')
  (h : ∀ V w', X V w' → S w' → wpAnyH P md ops Q S fuel (listed.setIfInBounds i true) (a' V) w')
  (hi : ops[i]? = some oi := by first | (simp only [List.getElem?_toArray, List.getElem?_cons_zero]; rfl) | (simp only [List.getElem?_toArray, List.getElem?_cons_succ, List.getElem?_cons_zero]; rfl))
  (hr : Region.ready md ops listed = [i] := by kernel_rfl) (hg : Region.wanted oi (yielded ops a.tmps) = true := by rfl)
  (hx : (execOp a.eval oi).run P w = .ok (.enter f args) w := by (try simp only [s_4, s_5, s_6]); go_simp)
  (ha : ∀ V, a.put oi.dst V = a' V := by intro V; simp only [Act.put, s_1, s_2, s_3, s_4, s_5, s_6]; rfl) : wpAnyH P md ops Q S (fuel + 1) listed a w := by
 refine wpAnyH_ready (rs := [i]) hr (by simp) (AllReadyH.cons (o := oi) hi (fun K hK => ?_) AllReadyH.nil);rw [if_pos hg];unfold Oper.wp;rw [hx, Oper.upon_enter];refine hc.mono ?_;rintro e w' ⟨V, rfl, hX⟩;exact hK.out _ _ (hn V w' hX) (fun hS => by rw [ha]; exact h V w' hX hS)
theorem al (i : Nat) (o : Obj) {oi : Oper} {fuel : Nat} {listed : Array Bool} {a : Act} {a' : Nat → Act} {w : World} {rs : List Nat} (hS : S (w.alloc o))
  (h : ∀ B w1, w.heap.size = B → w.alloc o = w1 → S w1 → wpAnyH P md ops Q S fuel (listed.setIfInBounds i true) (a' B) w1) (hs : AllReadyH P md ops Q S fuel listed a w rs)
  (hi : ops[i]? = some oi := by first | (simp only [List.getElem?_toArray, List.getElem?_cons_zero]; rfl) | (simp only [List.getElem?_toArray, List.getElem?_cons_succ, List.getElem?_cons_zero]; rfl))
  (hg : Region.wanted oi (yielded ops a.tmps) = true := by rfl)
  (hx : (execOp a.eval oi).run P w = .ok (.value (.pointer (some ⟨w.heap.size, 0, none⟩))) (w.alloc o) := by (try simp only [s_4, s_5, s_6]); go_simp)
  (ha : ∀ B, a.put oi.dst (.pointer (some ⟨B, 0, none⟩)) = a' B := by intro B; simp only [Act.put, s_1, s_2, s_3, s_4, s_5, s_6]; rfl) : AllReadyH P md ops Q S fuel listed a w (i :: rs) :=
 vl_core hS (fun z => h _ _ rfl rfl z) hs hi hg hx (.inl rfl) (ha _)
theorem vl (i : Nat) {oi : Oper} {n : Next} {v : Value} {fuel : Nat} {listed : Array Bool} {a a' : Act} {w w1 : World} {rs : List Nat} (hS : S w1)
  (h : S w1 → wpAnyH P md ops Q S fuel (listed.setIfInBounds i true) a' w1) (hs : AllReadyH P md ops Q S fuel listed a w rs)
  (hi : ops[i]? = some oi := by first | (simp only [List.getElem?_toArray, List.getElem?_cons_zero]; rfl) | (simp only [List.getElem?_toArray, List.getElem?_cons_succ, List.getElem?_cons_zero]; rfl))
  (hg : Region.wanted oi (yielded ops a.tmps) = true := by rfl)
  (hx : (execOp a.eval oi).run P w = .ok n w1 := by (try simp only [s_4, s_5, s_6]); go_simp; (try with_reducible rfl); (try exact ⟨rfl, rfl⟩))
  (hn : (n = .value v) ∨ (n = .skip ∧ v = undef) := by first | exact .inr ⟨rfl, rfl⟩ | exact .inl rfl)
  (ha : a.put oi.dst v = a' := by simp only [Act.put, List.setIfInBounds_toArray, List.set_cons_zero, List.set_cons_succ, List.getElem_toArray, List.getElem_cons_succ, List.getElem_cons_zero]; rfl) : AllReadyH P md ops Q S fuel listed a w (i :: rs) :=
 vl_core hS h hs hi hg hx hn ha
theorem tq (i : Nat) {oi : Oper} {f : FuncId} {args : Array Value} {v : Value} {fuel : Nat} {listed : Array Bool} {a a' : Act} {w : World}
  (hc : ∀ w, S w → Calls P f args w fun e w' => e = .returned v ∧ w = w')
  (h : wpAnyH P md ops Q S fuel (listed.setIfInBounds i true) a' w)
  (hi : ops[i]? = some oi := by first | (simp only [List.getElem?_toArray, List.getElem?_cons_zero]; rfl) | (simp only [List.getElem?_toArray, List.getElem?_cons_succ, List.getElem?_cons_zero]; rfl))
  (hs : Region.noSelect ops = true := by kernel_rfl) (hf : Region.free md ops listed i = true := by kernel_rfl) (hr : (Region.ready md ops listed).contains i = true := by kernel_rfl)
  (hQ : ∀ c a w, Q (.panic c) (a.put oi.dst v) w → Q (.panic c) a w := by exact fun _ _ _ h => h)
  (hg : Region.wanted oi (yielded ops a.tmps) = true := by rfl)
  (hx : ∀ w, S w → (execOp a.eval oi).run P w = .ok (.enter f args) w := by (intro w hSw; (try dsimp only at hSw); (try go_split_ands); (try simp only [s_4, s_5, s_6]); go_simp))
  (ha : a.put oi.dst v = a' := by simp only [Act.put, List.setIfInBounds_toArray, List.set_cons_zero, List.set_cons_succ, List.getElem_toArray, List.getElem_cons_succ, List.getElem_cons_zero]; rfl)
  (hS : S w := by assumption) : wpAnyH P md ops Q S (fuel + 1) listed a w :=
 wpAnyH_takeC hi hs hf hr hQ ⟨hg, f, args, hx, hc⟩ hS (ha ▸ h)
end
end
section
open Go.RowKit Go.Shelf
attribute [local go_sem] Oper.semAt_some
theorem boxHM {w : World} {h : HouseR} (m : Mv) (hh : HouseIn w h) : ∃ W0, (w.alloc (LHo h)).alloc (.cells #[.string m.name, .int .i64 m.to, .int .i64 m.spd, .int .i64 m.rise, .int .i64 m.fall] 27) = W0 ∧ Hid (∀ w', Below W0.heap.size W0 w' → HouseAt w' w.heap.size h ∧ MvAt w' (w.heap.size + 1) m ∧ HouseIn w' h ∧ Below w.heap.size w w') := by
 have hb : Below w.heap.size w ((w.alloc (LHo h)).alloc (.cells #[.string m.name, .int .i64 m.to, .int .i64 m.spd, .int .i64 m.rise, .int .i64 m.fall] 27)) := (below_new w _).alloc (by simp) _;have hM := MvAt.new (w.alloc (LHo h)) m 27;rw [show (w.alloc (LHo h)).heap.size = w.heap.size + 1 by simp] at hM;exact ⟨_, rfl, lh fun w' z => ⟨((HouseAt.new w h 25).carry (below_new _ _)).carry z, hM.carry z, (hh.grow hb).grow z, hb.trans (z.mono hb.size)⟩⟩
open Classical in
noncomputable def namI (h : HouseR) (m : Mv) : Int := if setE h m = 0 then setI h m else 0
theorem rnamed_any (h : HouseR) (m : Mv) (w : World) (hh : HouseIn w h) :
  Calls Tryz.prog 16 #[.agg #[.string h.name, .int .i64 h.height, .slice h.sa h.sets.length h.sc, .slice h.ra h.roofs.length h.rc], .agg #[.string m.name, .int .i64 m.to, .int .i64 m.spd, .int .i64 m.rise, .int .i64 m.fall]] w fun e w' => e = .returned (.tuple #[.int .i64 (namI h m), .int .i64 (setE h m)]) ∧ Below w.heap.size w w' := by
 obtain ⟨b1, h1⟩ := nm (houseB h);obtain ⟨b2, h2⟩ := nm (validM m);obtain ⟨i, hi⟩ := nm (findS h.sets m.name);have hE : setE h m = if b1 = true ∧ b2 = true then (if i < 0 then 9 else 0) else 1 := by unfold setE setI; rw [h1, h2, hi]
 have hI : namI h m = if setE h m = 0 then i else 0 := by unfold namI setI; rw [hi]
 have HB : Hid (∀ w' : World, Below w.heap.size w w' → Calls Tryz.prog 50 #[.agg #[.string h.name, .int .i64 h.height, .slice h.sa h.sets.length h.sc, .slice h.ra h.roofs.length h.rc]] w' fun e w2 => e = .returned (.bool b1) ∧ Below w'.heap.size w' w2) := lh fun w' hb => by have := rhouse_any h w' (hh.grow hb); rwa [h1] at this
 have HMV : Hid (∀ w' : World, Below w.heap.size w w' → Calls Tryz.prog 51 #[.agg #[.string m.name, .int .i64 m.to, .int .i64 m.spd, .int .i64 m.rise, .int .i64 m.fall]] w' fun e w2 => e = .returned (.bool b2) ∧ Below w'.heap.size w' w2) := lh fun w' hb => by have := refvalid_anyM m w'; rwa [h2] at this
 have HF : Hid (∀ w' : World, Below w.heap.size w w' → Calls Tryz.prog 52 #[.agg #[.string h.name, .int .i64 h.height, .slice h.sa h.sets.length h.sc, .slice h.ra h.roofs.length h.rc], .string m.name] w' fun e w2 => e = .returned (.int .i64 i) ∧ Below w'.heap.size w' w2) := lh fun w' hb => by have := rfind_any h m.name w' (hh.grow hb).toHouseIn0 hh.slen; rwa [hi] at this
 obtain ⟨W0, hW0, HX⟩ := boxHM m hh;clear hh h1 h2 hi
 cases b1
 ·rw [show setE h m = 1 by rw [hE]; rfl] at hI ⊢
  rw [show namI h m = 0 by rw [hI]; rfl];clear hE hI
  go_enter Tryz.func16, Tryz.ntmps16
  go_upto_region 1 with (fail)
  try simp only [hW0]
  clear hW0;obtain ⟨⟨k0, k1, k2, k3⟩, ⟨m0, m1, m2, m3, m4⟩, -, hw0⟩ := HX.out _ br
  go_wp2_with (first
   | (go_at_call 50; (with_reducible refine (HB.out _ hw0).mono ?_); rintro e w1 ⟨rfl, hb1⟩; clear k0 k1 k2 k3 m0 m1 m2 m3 m4 hw0; obtain ⟨⟨k0, k1, k2, k3⟩, ⟨m0, m1, m2, m3, m4⟩, -, hw1⟩ := HX.out _ hb1)
   | (go_at_call 51; (with_reducible refine (HMV.out _ hw1).mono ?_); rintro e w2 ⟨rfl, hb2⟩; replace hb2 := hb1.trans (hb2.mono hb1.size); clear k0 k1 k2 k3 m0 m1 m2 m3 m4; obtain ⟨⟨k0, k1, k2, k3⟩, ⟨m0, m1, m2, m3, m4⟩, -, hw2⟩ := HX.out _ hb2)
   | (go_at_call 52; (with_reducible refine (HF.out _ hw2).mono ?_); rintro e w3 ⟨rfl, hb3⟩; have hw3 := hw2.trans (hb3.mono hw2.size)))
  go_ret2
  exact ⟨rfl, hw1⟩
 cases b2
 ·rw [show setE h m = 1 by rw [hE]; rfl] at hI ⊢
  rw [show namI h m = 0 by rw [hI]; rfl];clear hE hI
  go_enter Tryz.func16, Tryz.ntmps16
  go_upto_region 1 with (fail)
  try simp only [hW0]
  clear hW0;obtain ⟨⟨k0, k1, k2, k3⟩, ⟨m0, m1, m2, m3, m4⟩, -, hw0⟩ := HX.out _ br
  go_wp2_with (first
   | (go_at_call 50; (with_reducible refine (HB.out _ hw0).mono ?_); rintro e w1 ⟨rfl, hb1⟩; clear k0 k1 k2 k3 m0 m1 m2 m3 m4 hw0; obtain ⟨⟨k0, k1, k2, k3⟩, ⟨m0, m1, m2, m3, m4⟩, -, hw1⟩ := HX.out _ hb1)
   | (go_at_call 51; (with_reducible refine (HMV.out _ hw1).mono ?_); rintro e w2 ⟨rfl, hb2⟩; replace hb2 := hb1.trans (hb2.mono hb1.size); clear k0 k1 k2 k3 m0 m1 m2 m3 m4; obtain ⟨⟨k0, k1, k2, k3⟩, ⟨m0, m1, m2, m3, m4⟩, -, hw2⟩ := HX.out _ hb2)
   | (go_at_call 52; (with_reducible refine (HF.out _ hw2).mono ?_); rintro e w3 ⟨rfl, hb3⟩; have hw3 := hw2.trans (hb3.mono hw2.size)))
  go_ret2
  exact ⟨rfl, hw2⟩
 by_cases z : i < 0
 ·rw [show setE h m = 9 by rw [hE, if_pos ⟨rfl, rfl⟩, if_pos z]] at hI ⊢
  rw [show namI h m = 0 by rw [hI]; rfl];have g := decide_eq_true z;clear hE hI z
  go_enter Tryz.func16, Tryz.ntmps16
  go_upto_region 1 with (fail)
  try simp only [hW0]
  clear hW0;obtain ⟨⟨k0, k1, k2, k3⟩, ⟨m0, m1, m2, m3, m4⟩, -, hw0⟩ := HX.out _ br
  go_wp2_with (first
   | (go_at_call 50; (with_reducible refine (HB.out _ hw0).mono ?_); rintro e w1 ⟨rfl, hb1⟩; clear k0 k1 k2 k3 m0 m1 m2 m3 m4 hw0; obtain ⟨⟨k0, k1, k2, k3⟩, ⟨m0, m1, m2, m3, m4⟩, -, hw1⟩ := HX.out _ hb1)
   | (go_at_call 51; (with_reducible refine (HMV.out _ hw1).mono ?_); rintro e w2 ⟨rfl, hb2⟩; replace hb2 := hb1.trans (hb2.mono hb1.size); clear k0 k1 k2 k3 m0 m1 m2 m3 m4; obtain ⟨⟨k0, k1, k2, k3⟩, ⟨m0, m1, m2, m3, m4⟩, -, hw2⟩ := HX.out _ hb2)
   | (go_at_call 52; (with_reducible refine (HF.out _ hw2).mono ?_); rintro e w3 ⟨rfl, hb3⟩; have hw3 := hw2.trans (hb3.mono hw2.size)))
  go_ret2
  exact ⟨rfl, hw3⟩
 ·have e := (hE.trans (if_pos ⟨rfl, rfl⟩)).trans (if_neg z)
  rw [e] at hI ⊢;rw [show namI h m = i by rw [hI]; rfl];have g := decide_eq_false z;clear hE hI z e
  go_enter Tryz.func16, Tryz.ntmps16
  go_upto_region 1 with (fail)
  try simp only [hW0]
  clear hW0;obtain ⟨⟨k0, k1, k2, k3⟩, ⟨m0, m1, m2, m3, m4⟩, -, hw0⟩ := HX.out _ br
  go_wp2_with (first
   | (go_at_call 50; (with_reducible refine (HB.out _ hw0).mono ?_); rintro e w1 ⟨rfl, hb1⟩; clear k0 k1 k2 k3 m0 m1 m2 m3 m4 hw0; obtain ⟨⟨k0, k1, k2, k3⟩, ⟨m0, m1, m2, m3, m4⟩, -, hw1⟩ := HX.out _ hb1)
   | (go_at_call 51; (with_reducible refine (HMV.out _ hw1).mono ?_); rintro e w2 ⟨rfl, hb2⟩; replace hb2 := hb1.trans (hb2.mono hb1.size); clear k0 k1 k2 k3 m0 m1 m2 m3 m4; obtain ⟨⟨k0, k1, k2, k3⟩, ⟨m0, m1, m2, m3, m4⟩, -, hw2⟩ := HX.out _ hb2)
   | (go_at_call 52; (with_reducible refine (HF.out _ hw2).mono ?_); rintro e w3 ⟨rfl, hb3⟩; have hw3 := hw2.trans (hb3.mono hw2.size)))
  go_ret2
  exact ⟨rfl, hw3⟩
theorem rgiven_any (h : HouseR) (f : Int) (m : Mv) (w : World) (hh : HouseIn w h) :
  Calls Tryz.prog 9 #[.agg #[.string h.name, .int .i64 h.height, .slice h.sa h.sets.length h.sc, .slice h.ra h.roofs.length h.rc], .int .i64 f, .agg #[.string m.name, .int .i64 m.to, .int .i64 m.spd, .int .i64 m.rise, .int .i64 m.fall]] w fun e w' => e = .returned (.int .i64 (mgE h f m)) ∧ Below w.heap.size w w' := by
 obtain ⟨i, hi⟩ := nm (namI h m);obtain ⟨E, he⟩ := nm (setE h m);have HN : Hid (∀ w' : World, Below w.heap.size w w' → Calls Tryz.prog 16 #[.agg #[.string h.name, .int .i64 h.height, .slice h.sa h.sets.length h.sc, .slice h.ra h.roofs.length h.rc], .agg #[.string m.name, .int .i64 m.to, .int .i64 m.spd, .int .i64 m.rise, .int .i64 m.fall]] w' fun e w2 => e = .returned (.tuple #[.int .i64 i, .int .i64 E]) ∧ Below w'.heap.size w' w2) := lh fun w' hb => by have := rnamed_any h m w' (hh.grow hb); rwa [hi, he] at this
 have hscap := hh.scap;have hslen := hh.slen;obtain ⟨W0, hW0, HX⟩ := boxHM m hh
 by_cases z : E = 0
 case neg =>
  have z1 : (E != 0) = true := by simpa using z
  rw [show mgE h f m = E by unfold mgE; rw [he, if_neg z]];clear hh hi he z hscap hslen
  go_enter Tryz.func9, Tryz.ntmps9
  go_upto_region 1 with (fail)
  try simp only [hW0]
  clear hW0;obtain ⟨⟨k0, k1, k2, k3⟩, ⟨m0, m1, m2, m3, m4⟩, -, hw0⟩ := HX.out _ br
  go_wp2_with (go_at_call 16; (with_reducible refine (HN.out _ hw0).mono ?_); rintro e w1 ⟨rfl, hb1⟩)
  go_ret;exact ⟨rfl, hw0.trans (hb1.mono hw0.size)⟩
 subst z;obtain ⟨-, -, s0, s1, hx⟩ := set_ok he;have HMG : Hid (mgE h f m = if reachB (setO h m) f = true ∧ reachB (setO h m) m.to = true then 0 else 2) := lh (by unfold mgE; rw [if_pos he]);have hni : setI h m = i := by rw [← hi]; unfold namI; rw [if_pos he]
 obtain ⟨k, hk⟩ : ∃ k : Nat, i = k := ⟨i.toNat, by omega⟩;subst hk;rw [hni, Int.toNat_natCast] at s1 hx;obtain ⟨x, hxx⟩ := nm (hg h.sets k);rw [hxx] at hx;rw [hx] at HMG;obtain ⟨b, off, hsa, hb, hc⟩ := (HX.out _ br).2.2.1.sets (by omega);obtain ⟨c0, c1, c2, c3, c4, c5, c6, c7, c8, c9, c10, c11, c12⟩ := hc k s1;rw [hxx] at c0 c1 c2 c3 c4 c5 c6 c7 c8 c9 c10 c11 c12;have d0 : ∀ w', Below W0.heap.size W0 w' → w'.cell? ⟨b, off + k * 13, none⟩ = some (.string x.name) := fun w' z => (z.cell (p := ⟨b, _, none⟩) hb).trans c0;have d1 : ∀ w', Below W0.heap.size W0 w' → w'.cell? ⟨b, off + k * 13 + 1, none⟩ = some (.int .i64 x.depth) := fun w' z => (z.cell (p := ⟨b, _, none⟩) hb).trans c1;have d2 : ∀ w', Below W0.heap.size W0 w' → w'.cell? ⟨b, off + k * 13 + 2, none⟩ = some (.int .i64 x.low) := fun w' z => (z.cell (p := ⟨b, _, none⟩) hb).trans c2;have d3 : ∀ w', Below W0.heap.size W0 w' → w'.cell? ⟨b, off + k * 13 + 3, none⟩ = some (.int .i64 x.high) := fun w' z => (z.cell (p := ⟨b, _, none⟩) hb).trans c3;have d4 : ∀ w', Below W0.heap.size W0 w' → w'.cell? ⟨b, off + k * 13 + 4, none⟩ = some (.int .i64 x.length) := fun w' z => (z.cell (p := ⟨b, _, none⟩) hb).trans c4;have d5 : ∀ w', Below W0.heap.size W0 w' → w'.cell? ⟨b, off + k * 13 + 5, none⟩ = some (.slice x.la x.lines.length x.lc) := fun w' z => (z.cell (p := ⟨b, _, none⟩) hb).trans c5;have d6 : ∀ w', Below W0.heap.size W0 w' → w'.cell? ⟨b, off + k * 13 + 6, none⟩ = some (.int .i64 x.pipe) := fun w' z => (z.cell (p := ⟨b, _, none⟩) hb).trans c6;have d7 : ∀ w', Below W0.heap.size W0 w' → w'.cell? ⟨b, off + k * 13 + 7, none⟩ = some (.int .i64 x.arbor) := fun w' z => (z.cell (p := ⟨b, _, none⟩) hb).trans c7;have d8 : ∀ w', Below W0.heap.size W0 w' → w'.cell? ⟨b, off + k * 13 + 8, none⟩ = some (.int .i64 x.purchase) := fun w' z => (z.cell (p := ⟨b, _, none⟩) hb).trans c8;have d9 : ∀ w', Below W0.heap.size W0 w' → w'.cell? ⟨b, off + k * 13 + 9, none⟩ = some (.int .i64 x.most) := fun w' z => (z.cell (p := ⟨b, _, none⟩) hb).trans c9;have d10 : ∀ w', Below W0.heap.size W0 w' → w'.cell? ⟨b, off + k * 13 + 10, none⟩ = some (.int .i64 x.brake) := fun w' z => (z.cell (p := ⟨b, _, none⟩) hb).trans c10;have d11 : ∀ w', Below W0.heap.size W0 w' → w'.cell? ⟨b, off + k * 13 + 11, none⟩ = some (.slice x.ia x.items.length x.ic) := fun w' z => (z.cell (p := ⟨b, _, none⟩) hb).trans c11;have d12 : ∀ w', Below W0.heap.size W0 w' → w'.cell? ⟨b, off + k * 13 + 12, none⟩ = some (.slice x.ba x.bricks.length x.bc) := fun w' z => (z.cell (p := ⟨b, _, none⟩) hb).trans c12;have i0 : 0 ≤ (k : Int) := by omega
 have i1 : (k : Int) < (h.sets.length : Int) := by omega
 have HR1 := lh (rreach_any x f);have HR2 := lh (rreach_any x m.to);obtain ⟨r1, hr1⟩ := nm (reachB x f);obtain ⟨r2, hr2⟩ := nm (reachB x m.to);rw [hr1] at HMG HR1;rw [hr2] at HMG HR2;have HSA := lh hsa;clear hh hi he hni hx hxx hr1 hr2 c0 c1 c2 c3 c4 c5 c6 c7 c8 c9 c10 c11 c12 hc hsa s0 s1
 go_enter Tryz.func9, Tryz.ntmps9
 go_upto_region 1 with (fail)
 try simp only [hW0]
 clear hW0;obtain ⟨⟨k0, k1, k2, k3⟩, ⟨m0, m1, m2, m3, m4⟩, -, hw0⟩ := HX.out _ br
 go_upto_region 4 with (go_at_call 16; (with_reducible refine (HN.out _ hw0).mono ?_); rintro e w1 ⟨rfl, hb1⟩)
 have HB1 := lh hb1;clear k0 k1 k2 k3 m0 m1 m2 m3 m4 hw0;have k2 : ∀ w', Below W0.heap.size W0 w' → w'.cell? ⟨w.heap.size, 2, none⟩ = some (.slice (some ⟨b, off, none⟩) h.sets.length h.sc) := fun w' z => by have := (HX.out _ z).1.2.2.1; rwa [HSA.out] at this
 have m1 : ∀ w', Below W0.heap.size W0 w' → w'.cell? ⟨w.heap.size + 1, 1, none⟩ = some (.int .i64 m.to) := fun w' z => (HX.out _ z).2.1.2.1;refine wp_region_held_drew (S := fun w' => Below W0.heap.size W0 w') (by kernel_rfl) (hb1.drew) (fun hHeld => ?_);refine tk 0 ?_; refine tk 1 ?_; refine tk 2 ?_; refine tk 3 ?_; refine tk 4 ?_; refine tk 5 ?_;refine cl 6 (HR1.out _) (fun _ hb => hHeld.trans (hb.mono hHeld.size)) (fun y1 hb hH1 => ?_);refine tk 7 ?_; refine tk 8 ?_
 cases r1
 ·refine sk 9 ?_; refine sk 10 ?_; refine sk 11 ?_; refine sk 12 ?_; refine sk 13 ?_; refine sk 14 ?_; refine sk 15 ?_; refine sk 16 ?_; refine sk 17 ?_
  refine tk 18 ?_; refine dn ?_
  go_wp2_with fail
  go_ret;exact ⟨ret_int (by rw [HMG.out]; simp), (HX.out _ hH1).2.2.2⟩
 ·refine tk 9 ?_; refine tk 10 ?_; refine tk 11 ?_; refine tk 12 ?_; refine tk 13 ?_; refine tk 14 ?_; refine tk 15 ?_
  refine cl 16 (HR2.out _) (fun _ hb => hH1.trans (hb.mono hH1.size)) (fun y2 hb2 hH2 => ?_);refine tk 17 ?_; refine tk 18 ?_; refine dn ?_
  cases r2
  ·go_wp2_with fail
   go_ret;exact ⟨ret_int (by rw [HMG.out]; simp), (HX.out _ hH2).2.2.2⟩
  ·go_wp2_with fail
   go_ret;exact ⟨ret_int (by rw [HMG.out]; simp), (HX.out _ hH2).2.2.2⟩
end
section
open Go.RowKit Go.Shelf
theorem PB.putA {w : World} {b : Nat} {p : Pc} (h : PB w b p) (x y : Int) : PB ((w.setCell ⟨b, 2, none⟩ (.int .i64 x)).setCell ⟨b, 3, none⟩ (.int .i64 y)) b ⟨p.f0, p.f1, x, y, p.b0, p.b1, p.c0, p.c1⟩ :=
 (h.set (q := ⟨p.f0, p.f1, x, p.a1, p.b0, p.b1, p.c0, p.c1⟩) (.int .i64 x) (by decide) (by simp)).set (.int .i64 y) (by decide) (by simp)
theorem PB.putB {w : World} {b : Nat} {p : Pc} (h : PB w b p) (x y : Int) : PB ((w.setCell ⟨b, 4, none⟩ (.int .i64 x)).setCell ⟨b, 5, none⟩ (.int .i64 y)) b ⟨p.f0, p.f1, p.a0, p.a1, x, y, p.c0, p.c1⟩ :=
 (h.set (q := ⟨p.f0, p.f1, p.a0, p.a1, x, p.b1, p.c0, p.c1⟩) (.int .i64 x) (by decide) (by simp)).set (.int .i64 y) (by decide) (by simp)
theorem PB.putC {w : World} {b : Nat} {p : Pc} (h : PB w b p) (x y : Int) : PB ((w.setCell ⟨b, 6, none⟩ (.int .i64 x)).setCell ⟨b, 7, none⟩ (.int .i64 y)) b ⟨p.f0, p.f1, p.a0, p.a1, p.b0, p.b1, x, y⟩ :=
 (h.set (q := ⟨p.f0, p.f1, p.a0, p.a1, p.b0, p.b1, x, p.c1⟩) (.int .i64 x) (by decide) (by simp)).set (.int .i64 y) (by decide) (by simp)
theorem own_len {w : World} {base n k size : Nat} {e : TypeId} {v : Value} {X : List Value} (h : n = k) (o : w.ownsRow base e size v k X) : w.ownsRow base e size v n X := h ▸ o
structure HQ (n₀ : Nat) (W0 : World) (B : Nat) (w : World) : Prop where
 old : Below n₀ W0 w
 pb : ∃ q, PB w B q
 lo : n₀ ≤ B
theorem HQ.size {n₀ B : Nat} {W0 w : World} (h : HQ n₀ W0 B w) : n₀ ≤ w.heap.size := by
 obtain ⟨q, z⟩ := h.pb;have := z.lt;have := h.lo;omega
theorem HQ.next {n₀ B : Nat} {W0 w w' : World} (h : HQ n₀ W0 B w) (hb : Below w.heap.size w w') : HQ n₀ W0 B w' := ⟨h.old.trans (hb.mono h.size), by obtain ⟨q, z⟩ := h.pb; exact ⟨q, z.carry hb⟩, h.lo⟩
theorem HQ.putAt {n₀ B i j : Nat} {W0 w : World} {u v : Value} {q : Pc} (h : HQ n₀ W0 B w) (z : PB ((w.setCell ⟨B, i, none⟩ u).setCell ⟨B, j, none⟩ v) B q) : HQ n₀ W0 B ((w.setCell ⟨B, i, none⟩ u).setCell ⟨B, j, none⟩ v) :=
 ⟨(h.old.setCell (show n₀ ≤ (⟨B, i, none⟩ : Addr).block from h.lo) _).setCell (show n₀ ≤ (⟨B, j, none⟩ : Addr).block from h.lo) _, ⟨q, z⟩, h.lo⟩
end
section
open Go.RowKit Go.Shelf
attribute [local go_sem] Oper.semAt_some
theorem fit_sgn (neg : Bool) {n m d : Int} (h : m = if neg then -n else n) : fitP (if neg then -lowN n d else lowN n d) (lowD n d) = fitP (lowN m d) (lowD m d) := by
 subst h
 cases neg
 ·rfl
 ·simp only [if_true, lowN_neg, lowD_neg]
theorem abs_mul (n d : Int) : (n.natAbs : Int) * d = if n < 0 then -(n * d) else n * d := by
 by_cases c : n < 0
 ·rw [if_pos c, show (n.natAbs : Int) = -n by omega, Int.neg_mul]
 ·rw [if_neg c, show (n.natAbs : Int) = n by omega]
theorem mul_120 {n d : Int} (n0 : 0 ≤ n) (n1 : n ≤ 1152921504606846976) (d0 : 0 ≤ d) (d1 : d ≤ 1152921504606846976) : 0 ≤ n * d ∧ n * d ≤ 1329227995784915872903807060280344576 :=
 ⟨Int.mul_nonneg n0 d0, Int.mul_le_mul n1 d1 d0 (by decide)⟩
theorem fc_far {w : World} {B C : Nat} {x y : Int} (f : FC w C x y) (hne : C ≠ B) (u v : Value) : FC ((w.setCell ⟨B, 0, none⟩ u).setCell ⟨B, 1, none⟩ v) C x y :=
 ⟨(two_other hne _ _ _).trans f.1, (two_other hne _ _ _).trans f.2.1, by simpa using f.2.2.1, by simpa using f.2.2.2.1, by simpa using f.2.2.2.2⟩
structure HR (n₀ : Nat) (W0 : World) (L : List (Nat × Int)) (w : World) : Prop where
 old : Below n₀ W0 w
 res : ∃ x y, FI w n₀ x y
 fc : ∀ p ∈ L, n₀ < p.1 ∧ FC w p.1 (hiW p.2) (loW p.2)
theorem HR.lo {n₀ : Nat} {W0 w : World} {L : List (Nat × Int)} (h : HR n₀ W0 L w) : n₀ < w.heap.size := by
 obtain ⟨_, _, r⟩ := h.res;exact r.2.2.2.2
theorem HR.next {n₀ : Nat} {W0 w w' : World} {L : List (Nat × Int)} (h : HR n₀ W0 L w) (hb : Below w.heap.size w w') : HR n₀ W0 L w' :=
 ⟨h.old.trans (hb.mono (Nat.le_of_lt h.lo)), by obtain ⟨x, y, r⟩ := h.res; exact ⟨x, y, r.carry hb⟩, fun p hp => ⟨(h.fc p hp).1, (h.fc p hp).2.carry hb⟩⟩
theorem HR.put {n₀ : Nat} {W0 w : World} {L : List (Nat × Int)} (h : HR n₀ W0 L w) {g : Nat} (hg : n₀ < g) (hf : ∀ p ∈ L, p.1 ≠ g) (x y : Int) : HR n₀ W0 L ((w.setCell ⟨g, 0, none⟩ (.int .u64 x)).setCell ⟨g, 1, none⟩ (.int .u64 y)) :=
 ⟨(h.old.setCell (show n₀ ≤ (⟨g, 0, none⟩ : Addr).block from Nat.le_of_lt hg) _).setCell (show n₀ ≤ (⟨g, 1, none⟩ : Addr).block from Nat.le_of_lt hg) _, by obtain ⟨a, b, r⟩ := h.res; exact ⟨a, b, r.other (Nat.ne_of_lt hg) _ _⟩, fun p hp => ⟨(h.fc p hp).1, (h.fc p hp).2.other (hf p hp) x y⟩⟩
theorem HR.putI {n₀ : Nat} {W0 w : World} {L : List (Nat × Int)} (h : HR n₀ W0 L w) (x y : Int) : HR n₀ W0 L ((w.setCell ⟨n₀, 0, none⟩ (.int .i64 x)).setCell ⟨n₀, 1, none⟩ (.int .i64 y)) :=
 ⟨(h.old.setCell (show n₀ ≤ (⟨n₀, 0, none⟩ : Addr).block from Nat.le_refl _) _).setCell (show n₀ ≤ (⟨n₀, 1, none⟩ : Addr).block from Nat.le_refl _) _, by obtain ⟨a, b, r⟩ := h.res; exact ⟨x, y, r.set _ _⟩, fun p hp => ⟨(h.fc p hp).1, fc_far (h.fc p hp).2 (Nat.ne_of_gt (h.fc p hp).1) _ _⟩⟩
theorem HR.far {n₀ : Nat} {W0 w : World} {L : List (Nat × Int)} (h : HR n₀ W0 L w) {B : Nat} (e : w.heap.size = B) : n₀ < B ∧ ∀ p ∈ L, p.1 ≠ B := ⟨by have := h.lo; omega, fun p hp q => by have := (h.fc p hp).2.2.2.2.2; omega⟩
theorem HR.new {n₀ : Nat} {W0 w : World} {L : List (Nat × Int)} (h : HR n₀ W0 L w) {B : Nat} (hf : n₀ < B ∧ ∀ p ∈ L, p.1 ≠ B) (f : FC w B 0 0) (x : Int) : HR n₀ W0 ((B, x) :: L) ((w.setCell ⟨B, 0, none⟩ (.int .u64 (hiW x))).setCell ⟨B, 1, none⟩ (.int .u64 (loW x))) :=
 have k := h.put hf.1 hf.2 (hiW x) (loW x)
 ⟨k.old, k.res, fun p hp => by
  rcases List.mem_cons.1 hp with rfl | hp
  ·exact ⟨hf.1, f.set _ _⟩
  ·exact k.fc p hp⟩
theorem cases3 (s1 s2 : Bool) (x y : Int) : (s1 == s2) = true ∨ ((s1 == s2) = false ∧ decide (x < y) = true) ∨ ((s1 == s2) = false ∧ decide (x < y) = false) := by
 cases h : (s1 == s2)
 ·cases g : decide (x < y)
  ·exact .inr (.inr ⟨rfl, rfl⟩)
  ·exact .inr (.inl ⟨rfl, rfl⟩)
 ·exact .inl rfl
theorem radd_walk (an ad bn bd : Int) (va : validF an ad = true) (vb : validF bn bd = true) (w : World) :
  Calls Tryz.prog 41 #[.agg #[.int .i64 an, .int .i64 ad], .agg #[.int .i64 bn, .int .i64 bd]] w fun e w' => e = .returned (.tuple #[.agg #[.int .i64 (addP an ad bn bd).1, .int .i64 (addP an ad bn bd).2.1], .int .i64 (addP an ad bn bd).2.2]) ∧ Below w.heap.size w w' := by
 obtain ⟨A1, A2, A3, A4, -⟩ := (validF_iff _ _).1 va;obtain ⟨B1, B2, B3, B4, -⟩ := (validF_iff _ _).1 vb;have HS1 := lh fun w' => rsize_any an (by omega) (by omega) w';have HS2 := lh fun w' => rsize_any bd (by omega) (by omega) w';have HS3 := lh fun w' => rsize_any bn (by omega) (by omega) w';have HS4 := lh fun w' => rsize_any ad (by omega) (by omega) w';rw [show ((bd.natAbs : Nat) : Int) = bd by omega] at HS2;rw [show ((ad.natAbs : Nat) : Int) = ad by omega] at HS4;obtain ⟨na, hna⟩ := nm ((an.natAbs : Int) : Int);obtain ⟨nb, hnb⟩ := nm ((bn.natAbs : Int) : Int);obtain ⟨x0, x1⟩ := mul_120 (n := na) (d := bd) (by omega) (by omega) (by omega) (by omega);obtain ⟨y0, y1⟩ := mul_120 (n := nb) (d := ad) (by omega) (by omega) (by omega) (by omega);obtain ⟨d0, d1⟩ := mul_120 (n := ad) (d := bd) (by omega) (by omega) (by omega) (by omega);have dp : 0 < ad * bd := Int.mul_pos (by omega) (by omega);have HM1 := lh fun w' => rmul_any na bd (by omega) (by omega) (by omega) (by omega) w';have HM2 := lh fun w' => rmul_any nb ad (by omega) (by omega) (by omega) (by omega) w';have HM3 := lh fun w' => rmul_any ad bd (by omega) (by omega) (by omega) (by omega) w';have ex := abs_mul an bd;have ey := abs_mul bn ad;rw [hna] at HS1 ex;rw [hnb] at HS3 ey
 change Hid (∀ w', Calls Tryz.prog 84 #[.int .u64 na, .int .u64 bd] w' fun e w2 => e = .returned (.agg #[.int .u64 (hiW (na * bd)), .int .u64 (loW (na * bd))]) ∧ Below w'.heap.size w' w2) at HM1
 change Hid (∀ w', Calls Tryz.prog 84 #[.int .u64 nb, .int .u64 ad] w' fun e w2 => e = .returned (.agg #[.int .u64 (hiW (nb * ad)), .int .u64 (loW (nb * ad))]) ∧ Below w'.heap.size w' w2) at HM2
 change Hid (∀ w', Calls Tryz.prog 84 #[.int .u64 ad, .int .u64 bd] w' fun e w2 => e = .returned (.agg #[.int .u64 (hiW (ad * bd)), .int .u64 (loW (ad * bd))]) ∧ Below w'.heap.size w' w2) at HM3
 have HA : Hid (addP an ad bn bd = fitP (lowN (an * bd + bn * ad) (ad * bd)) (lowD (an * bd + bn * ad) (ad * bd))) := lh rfl;obtain ⟨s, hs⟩ := nm (an * bd + bn * ad);obtain ⟨R, hR⟩ := nm (addP an ad bn bd);rw [hs, hR] at HA;rw [hR];have gx : an * bd = if an < 0 then -(na * bd) else na * bd := by rw [ex]; split <;> omega
 have gy : bn * ad = if bn < 0 then -(nb * ad) else nb * ad := by rw [ey]; split <;> omega
 rw [gx, gy] at hs;obtain ⟨x, hx⟩ := nm (na * bd);obtain ⟨y, hy⟩ := nm (nb * ad);obtain ⟨d, hd⟩ := nm (ad * bd);rw [hx] at HM1 x0 x1 hs;rw [hy] at HM2 y0 y1 hs;rw [hd] at HM3 d0 d1 dp HA;clear ex ey gx gy hx hy hd hna hnb hR A1 A2 A3 A4 B1 B2 B3 B4 va vb;obtain ⟨s1, hs1⟩ := nm (decide (an < 0));obtain ⟨s2, hs2⟩ := nm (decide (bn < 0))
 have hs' : s = (if s1 then -x else x) + (if s2 then -y else y) := by
  rw [← hs, ← hs1, ← hs2]
  by_cases p : an < 0 <;> by_cases q : bn < 0 <;> simp [p, q]
 clear hs;have hc := cases3 s1 s2 x y;have hb0 : Below w.heap.size w (((w.alloc (.cells #[.int .i64 an, .int .i64 ad] 29)).alloc (.cells #[.int .i64 bn, .int .i64 bd] 29)).alloc (.cells #[.int .i64 0, .int .i64 0] 29)) := ((below_new w _).alloc (by simp) _).alloc (by simp; omega) _;obtain ⟨c0, c1, -, -, -⟩ := ((FI.put w an ad 29).carry (below_new _ (.cells #[.int .i64 bn, .int .i64 bd] 29))).carry (below_new ((w.alloc (.cells #[.int .i64 an, .int .i64 ad] 29)).alloc (.cells #[.int .i64 bn, .int .i64 bd] 29)) (.cells #[.int .i64 0, .int .i64 0] 29));have e2 := (FI.put (w.alloc (.cells #[.int .i64 an, .int .i64 ad] 29)) bn bd 29).carry (below_new ((w.alloc (.cells #[.int .i64 an, .int .i64 ad] 29)).alloc (.cells #[.int .i64 bn, .int .i64 bd] 29)) (.cells #[.int .i64 0, .int .i64 0] 29));rw [show (w.alloc (.cells #[.int .i64 an, .int .i64 ad] 29)).heap.size = w.heap.size + 1 by simp] at e2;obtain ⟨c2, c3, -, -, -⟩ := e2
 have hN : NewI6 (((w.alloc (.cells #[.int .i64 an, .int .i64 ad] 29)).alloc (.cells #[.int .i64 bn, .int .i64 bd] 29)).alloc (.cells #[.int .i64 0, .int .i64 0] 29)) (w.heap.size + 1 + 1) := by
  have e := NewI6.new ((w.alloc (.cells #[.int .i64 an, .int .i64 ad] 29)).alloc (.cells #[.int .i64 bn, .int .i64 bd] 29)) 29;rw [show ((w.alloc (.cells #[.int .i64 an, .int .i64 ad] 29)).alloc (.cells #[.int .i64 bn, .int .i64 bd] 29)).heap.size = w.heap.size + 1 + 1 by simp] at e;exact e
 go_enter Tryz.func41, Tryz.ntmps41
 go_upto_region 1 with (fail)
 obtain ⟨W0, hW0⟩ := nm ((((w.alloc (.cells #[.int .i64 an, .int .i64 ad] 29)).alloc (.cells #[.int .i64 bn, .int .i64 bd] 29)).alloc (.cells #[.int .i64 0, .int .i64 0] 29)) : World);simp only [hW0] at hb0 c0 c1 c2 c3 hN ⊢;clear hW0;obtain ⟨D1, hD1⟩ := nm (w.heap.size);obtain ⟨D2, hD2⟩ := nm (w.heap.size + 1);obtain ⟨n₀, hn0⟩ := nm (w.heap.size + 1 + 1);have hl1 : D1 < n₀ := by omega
 have hl2 : D2 < n₀ := by omega
 have HLO : Hid (w.heap.size ≤ n₀) := lh (by omega);have HB0 := lh hb0;rw [hn0] at hN ⊢;rw [hD2] at c2 c3 ⊢;rw [hD1] at c0 c1 ⊢;clear hD1 hD2 hn0 hb0;have k0 : ∀ L w', HR n₀ W0 L w' → w'.cell? ⟨D1, 0, none⟩ = some (.int .i64 an) := fun _ w' z => (z.old.cell (p := ⟨D1, 0, none⟩) hl1).trans c0;have k1 : ∀ L w', HR n₀ W0 L w' → w'.cell? ⟨D1, 1, none⟩ = some (.int .i64 ad) := fun _ w' z => (z.old.cell (p := ⟨D1, 1, none⟩) hl1).trans c1;have k2 : ∀ L w', HR n₀ W0 L w' → w'.cell? ⟨D2, 0, none⟩ = some (.int .i64 bn) := fun _ w' z => (z.old.cell (p := ⟨D2, 0, none⟩) hl2).trans c2;have k3 : ∀ L w', HR n₀ W0 L w' → w'.cell? ⟨D2, 1, none⟩ = some (.int .i64 bd) := fun _ w' z => (z.old.cell (p := ⟨D2, 1, none⟩) hl2).trans c3;have hH : HR n₀ W0 [] W0 := ⟨br, ⟨0, 0, hN⟩, fun p hp => by cases hp⟩;have K0 := lh k0;have K1 := lh k1;have K2 := lh k2;have K3 := lh k3;clear c0 c1 c2 c3 hN k0 k1 k2 k3;have k0 : ∀ w', HR n₀ W0 [] w' → w'.cell? ⟨D1, 0, none⟩ = some (.int .i64 an) := K0.out _;have k3 : ∀ w', HR n₀ W0 [] w' → w'.cell? ⟨D2, 1, none⟩ = some (.int .i64 bd) := K3.out _
 go_upto_region 1 with (fail)
 go_cut [6] (fun v wx => ∃ Bx : Nat, v = .pointer (some ⟨Bx, 0, none⟩) ∧ HR n₀ W0 [(Bx, x)] wx)
 case first =>
  refine wp_region_held_drew (S := HR n₀ W0 []) (by kernel_rfl) (hH.next (br).drew) (fun hHeld => ?_);refine tk 0 ?_; refine tk 1 ?_; refine tq 2 (fun w' _ => HS1.out w') ?_; refine tk 3 ?_; refine tk 4 ?_; refine tq 5 (fun w' _ => HS2.out w') ?_;refine ry [6, 7] (rc 6 (HM1.out _) (fun _ hb => hHeld.next hb) (fun y1 hb hH1 => ?_) (al 7 (.cells #[.int .u64 0, .int .u64 0] 69) (hHeld.next (below_new _ _)) (fun B y1 eB ey hH1 => ?_) nl))
  ·refine ry [7] (al 7 (.cells #[.int .u64 0, .int .u64 0] 69) (hH1.next (below_new _ _)) (fun B y2 eB ey hH2 => ?_) nl)
   have hf : FC y2 B 0 0 := by rw [← ey, ← eB]; exact FC.new _ _
   have hfar := hH1.far eB;clear ey eB;obtain ⟨f0, f1, f2, f3, f4⟩ := id hf;refine ry [8] (vl 8 (hH2.put hfar.1 hfar.2 _ _) (fun hH3 => ?_) nl);refine dn ?_
   go_wp2_with fail
   go_meet
   exact ⟨B, rfl, hH2.new hfar hf _⟩
  ·have hf0 : FC y1 B 0 0 := by rw [← ey, ← eB]; exact FC.new _ _
   have hfar := hHeld.far eB;clear ey eB;refine ry [6] (rc 6 (HM1.out _) (fun _ hb => hH1.next hb) (fun y2 hb hH2 => ?_) nl);have hf := hf0.carry hb;obtain ⟨f0, f1, f2, f3, f4⟩ := id hf;refine ry [8] (vl 8 (hH2.put hfar.1 hfar.2 _ _) (fun hH3 => ?_) nl);refine dn ?_
   go_wp2_with fail
   go_meet
   exact ⟨B, rfl, hH2.new hfar hf _⟩
 case rest =>
 obtain ⟨Bx, rfl, hH⟩ := hcut;clear k0 k3;have k2 : ∀ w', HR n₀ W0 [(Bx, x)] w' → w'.cell? ⟨D2, 0, none⟩ = some (.int .i64 bn) := K2.out _;have k1 : ∀ w', HR n₀ W0 [(Bx, x)] w' → w'.cell? ⟨D1, 1, none⟩ = some (.int .i64 ad) := K1.out _
 go_upto_region 2 with (fail)
 go_cut [7] (fun v wx => ∃ By : Nat, v = .pointer (some ⟨By, 0, none⟩) ∧ HR n₀ W0 [(By, y), (Bx, x)] wx)
 case first =>
  refine wp_region_held_drew (S := HR n₀ W0 [(Bx, x)]) (by kernel_rfl) (hH.next (br).drew) (fun hHeld => ?_);refine tk 0 ?_; refine tk 1 ?_; refine tq 2 (fun w' _ => HS3.out w') ?_; refine tk 3 ?_; refine tk 4 ?_; refine tq 5 (fun w' _ => HS4.out w') ?_;refine ry [6, 7] (rc 6 (HM2.out _) (fun _ hb => hHeld.next hb) (fun y1 hb hH1 => ?_) (al 7 (.cells #[.int .u64 0, .int .u64 0] 69) (hHeld.next (below_new _ _)) (fun B y1 eB ey hH1 => ?_) nl))
  ·refine ry [7] (al 7 (.cells #[.int .u64 0, .int .u64 0] 69) (hH1.next (below_new _ _)) (fun B y2 eB ey hH2 => ?_) nl)
   have hf : FC y2 B 0 0 := by rw [← ey, ← eB]; exact FC.new _ _
   have hfar := hH1.far eB;clear ey eB;obtain ⟨f0, f1, f2, f3, f4⟩ := id hf;refine ry [8] (vl 8 (hH2.put hfar.1 hfar.2 _ _) (fun hH3 => ?_) nl);refine dn ?_
   go_wp2_with fail
   go_meet
   exact ⟨B, rfl, hH2.new hfar hf _⟩
  ·have hf0 : FC y1 B 0 0 := by rw [← ey, ← eB]; exact FC.new _ _
   have hfar := hHeld.far eB;clear ey eB;refine ry [6] (rc 6 (HM2.out _) (fun _ hb => hH1.next hb) (fun y2 hb hH2 => ?_) nl);have hf := hf0.carry hb;obtain ⟨f0, f1, f2, f3, f4⟩ := id hf;refine ry [8] (vl 8 (hH2.put hfar.1 hfar.2 _ _) (fun hH3 => ?_) nl);refine dn ?_
   go_wp2_with fail
   go_meet
   exact ⟨B, rfl, hH2.new hfar hf _⟩
 case rest =>
 obtain ⟨By, rfl, hH⟩ := hcut;clear k2 k1;have k1 : ∀ w', HR n₀ W0 [(By, y), (Bx, x)] w' → w'.cell? ⟨D1, 1, none⟩ = some (.int .i64 ad) := K1.out _;have k3 : ∀ w', HR n₀ W0 [(By, y), (Bx, x)] w' → w'.cell? ⟨D2, 1, none⟩ = some (.int .i64 bd) := K3.out _
 go_upto_region 3 with (fail)
 go_cut [8] (fun v wx => ∃ Bd : Nat, v = .pointer (some ⟨Bd, 0, none⟩) ∧ HR n₀ W0 [(Bd, d), (By, y), (Bx, x)] wx)
 case first =>
  refine wp_region_held_drew (S := HR n₀ W0 [(By, y), (Bx, x)]) (by kernel_rfl) (hH.next (br).drew) (fun hHeld => ?_);refine tk 0 ?_; refine tk 1 ?_; refine tq 2 (fun w' _ => HS4.out w') ?_; refine tk 3 ?_; refine tk 4 ?_; refine tq 5 (fun w' _ => HS2.out w') ?_;refine ry [6, 7] (rc 6 (HM3.out _) (fun _ hb => hHeld.next hb) (fun y1 hb hH1 => ?_) (al 7 (.cells #[.int .u64 0, .int .u64 0] 69) (hHeld.next (below_new _ _)) (fun B y1 eB ey hH1 => ?_) nl))
  ·refine ry [7] (al 7 (.cells #[.int .u64 0, .int .u64 0] 69) (hH1.next (below_new _ _)) (fun B y2 eB ey hH2 => ?_) nl)
   have hf : FC y2 B 0 0 := by rw [← ey, ← eB]; exact FC.new _ _
   have hfar := hH1.far eB;clear ey eB;obtain ⟨f0, f1, f2, f3, f4⟩ := id hf;refine ry [8] (vl 8 (hH2.put hfar.1 hfar.2 _ _) (fun hH3 => ?_) nl);refine dn ?_
   go_wp2_with fail
   go_meet
   exact ⟨B, rfl, hH2.new hfar hf _⟩
  ·have hf0 : FC y1 B 0 0 := by rw [← ey, ← eB]; exact FC.new _ _
   have hfar := hHeld.far eB;clear ey eB;refine ry [6] (rc 6 (HM3.out _) (fun _ hb => hH1.next hb) (fun y2 hb hH2 => ?_) nl);have hf := hf0.carry hb;obtain ⟨f0, f1, f2, f3, f4⟩ := id hf;refine ry [8] (vl 8 (hH2.put hfar.1 hfar.2 _ _) (fun hH3 => ?_) nl);refine dn ?_
   go_wp2_with fail
   go_meet
   exact ⟨B, rfl, hH2.new hfar hf _⟩
 case rest =>
 obtain ⟨Bd, rfl, hH⟩ := hcut;clear k1 k3;have k0 : ∀ w', HR n₀ W0 [(Bd, d), (By, y), (Bx, x)] w' → w'.cell? ⟨D1, 0, none⟩ = some (.int .i64 an) := K0.out _;have k2 : ∀ w', HR n₀ W0 [(Bd, d), (By, y), (Bx, x)] w' → w'.cell? ⟨D2, 0, none⟩ = some (.int .i64 bn) := K2.out _;have zd0 : ∀ w', HR n₀ W0 [(Bd, d), (By, y), (Bx, x)] w' → w'.cell? ⟨Bd, 0, none⟩ = some (.int .u64 (hiW d)) := fun w' z => (z.fc (Bd, d) (by simp)).2.1;have zd1 : ∀ w', HR n₀ W0 [(Bd, d), (By, y), (Bx, x)] w' → w'.cell? ⟨Bd, 1, none⟩ = some (.int .u64 (loW d)) := fun w' z => (z.fc (Bd, d) (by simp)).2.2.1;have zy0 : ∀ w', HR n₀ W0 [(Bd, d), (By, y), (Bx, x)] w' → w'.cell? ⟨By, 0, none⟩ = some (.int .u64 (hiW y)) := fun w' z => (z.fc (By, y) (by simp)).2.1;have zy1 : ∀ w', HR n₀ W0 [(Bd, d), (By, y), (Bx, x)] w' → w'.cell? ⟨By, 1, none⟩ = some (.int .u64 (loW y)) := fun w' z => (z.fc (By, y) (by simp)).2.2.1;have zx0 : ∀ w', HR n₀ W0 [(Bd, d), (By, y), (Bx, x)] w' → w'.cell? ⟨Bx, 0, none⟩ = some (.int .u64 (hiW x)) := fun w' z => (z.fc (Bx, x) (by simp)).2.1;have zx1 : ∀ w', HR n₀ W0 [(Bd, d), (By, y), (Bx, x)] w' → w'.cell? ⟨Bx, 1, none⟩ = some (.int .u64 (loW x)) := fun w' z => (z.fc (Bx, x) (by simp)).2.2.1;have a0 := k0 _ hH;have b0 := k2 _ hH;have x0' := zx0 _ hH;have x1' := zx1 _ hH;have y0' := zy0 _ hH;have y1' := zy1 _ hH;rcases hc with hc1 | ⟨hc1, hc2⟩ | ⟨hc1, hc2⟩
 ·have HPM := lh fun w' => rplus_wide x y x0 y0 (by omega) w'
  have HMD := lh fun w' => rmade_wide (x + y) d s1 (by omega) (by omega) dp (by omega) w';have HF : Hid (fitP (if s1 then -lowN (x + y) d else lowN (x + y) d) (lowD (x + y) d) = R) := lh (by rw [fit_sgn s1 (m := s) (by rw [hs']; revert hc1; cases s1 <;> cases s2 <;> simp <;> omega)]; exact HA.out.symm);rw [HF.out] at HMD;clear HA HF hs' x0 x1 y0 y1 d0 d1 dp
  go_upto_region 5 with (fail)
  refine wp_region_held_drew (S := HR n₀ W0 [(Bd, d), (By, y), (Bx, x)]) (by kernel_rfl) (hH.next (br).drew) (fun hHeld => ?_);refine tk 0 ?_; refine tk 1 ?_; refine tk 3 ?_; refine tk 4 ?_; refine tk 5 ?_; refine tk 6 ?_;refine cl 2 (HPM.out _) (fun _ hb => hHeld.next hb) (fun y1 hb hH1 => ?_);refine cl 7 (HMD.out _) (fun _ hb => hH1.next hb) (fun y2 hb2 hH2 => ?_);refine tk 8 ?_; refine tk 9 ?_;obtain ⟨_, _, f0, f1, f2, f3, f4⟩ := id hH2.res;refine ry [10] (vl 10 (hH2.putI _ _) (fun hH3 => ?_) nl);refine tk 11 ?_; refine dn ?_
  go_wp2_with fail
  have hr := two_cells (v0 := .int .i64 R.1) (v1 := .int .i64 R.2.1) f0 f1;refine bodyPost_ret (v := .tuple #[.agg #[.int .i64 R.1, .int .i64 R.2.1], .int .i64 R.2.2]) (by simp [results, Tryz.results41, go_sem, hr.1, hr.2]) rfl ⟨rfl, ?_⟩;exact HB0.out.trans (hH3.old.mono HLO.out)
 ·have HPM := lh fun w' => rminus_wide y x (by omega) x0 (by have := of_decide_eq_true hc2; omega) w'
  have HMD := lh fun w' => rmade_wide (y - x) d s2 (by have := of_decide_eq_true hc2; omega) (by omega) dp (by omega) w';have HF : Hid (fitP (if s2 then -lowN (y - x) d else lowN (y - x) d) (lowD (y - x) d) = R) := lh (by rw [fit_sgn s2 (m := s) (by rw [hs']; revert hc1; cases s1 <;> cases s2 <;> simp <;> omega)]; exact HA.out.symm);rw [HF.out] at HMD;clear HA HF hs' x0 x1 y0 y1 d0 d1 dp;have HLS : Hid (∀ w' : World, Calls Tryz.prog 77 #[.agg #[.int .u64 (hiW x), .int .u64 (loW x)], .agg #[.int .u64 (hiW y), .int .u64 (loW y)]] w' fun e w2 => e = .returned (.bool true) ∧ Below w'.heap.size w' w2) := lh fun w' => by have := rless_wide x y w'; rwa [hc2] at this
  clear hc2
  go_upto_region 7 with (go_at_call 77; (with_reducible refine (HLS.out _).mono ?_); rintro e w5 ⟨rfl, hb5⟩; replace hH := hH.next hb5; clear a0 b0 x0' x1' y0' y1')
  refine wp_region_held_drew (S := HR n₀ W0 [(Bd, d), (By, y), (Bx, x)]) (by kernel_rfl) (hH.next (br).drew) (fun hHeld => ?_);refine tk 0 ?_; refine tk 1 ?_; refine tk 3 ?_; refine tk 4 ?_; refine tk 5 ?_; refine tk 6 ?_;refine cl 2 (HPM.out _) (fun _ hb => hHeld.next hb) (fun y1 hb hH1 => ?_);refine cl 7 (HMD.out _) (fun _ hb => hH1.next hb) (fun y2 hb2 hH2 => ?_);refine tk 8 ?_; refine tk 9 ?_;obtain ⟨_, _, f0, f1, f2, f3, f4⟩ := id hH2.res;refine ry [10] (vl 10 (hH2.putI _ _) (fun hH3 => ?_) nl);refine tk 11 ?_; refine dn ?_
  go_wp2_with fail
  have hr := two_cells (v0 := .int .i64 R.1) (v1 := .int .i64 R.2.1) f0 f1;refine bodyPost_ret (v := .tuple #[.agg #[.int .i64 R.1, .int .i64 R.2.1], .int .i64 R.2.2]) (by simp [results, Tryz.results41, go_sem, hr.1, hr.2]) rfl ⟨rfl, ?_⟩;exact HB0.out.trans (hH3.old.mono HLO.out)
 ·have HPM := lh fun w' => rminus_wide x y (by omega) y0 (by have := of_decide_eq_false hc2; omega) w'
  have HMD := lh fun w' => rmade_wide (x - y) d s1 (by have := of_decide_eq_false hc2; omega) (by omega) dp (by omega) w';have HF : Hid (fitP (if s1 then -lowN (x - y) d else lowN (x - y) d) (lowD (x - y) d) = R) := lh (by rw [fit_sgn s1 (m := s) (by rw [hs']; revert hc1; cases s1 <;> cases s2 <;> simp <;> omega)]; exact HA.out.symm);rw [HF.out] at HMD;clear HA HF hs' x0 x1 y0 y1 d0 d1 dp;have HLS : Hid (∀ w' : World, Calls Tryz.prog 77 #[.agg #[.int .u64 (hiW x), .int .u64 (loW x)], .agg #[.int .u64 (hiW y), .int .u64 (loW y)]] w' fun e w2 => e = .returned (.bool false) ∧ Below w'.heap.size w' w2) := lh fun w' => by have := rless_wide x y w'; rwa [hc2] at this
  clear hc2
  go_upto_region 8 with (go_at_call 77; (with_reducible refine (HLS.out _).mono ?_); rintro e w5 ⟨rfl, hb5⟩; replace hH := hH.next hb5; clear a0 b0 x0' x1' y0' y1')
  refine wp_region_held_drew (S := HR n₀ W0 [(Bd, d), (By, y), (Bx, x)]) (by kernel_rfl) (hH.next (br).drew) (fun hHeld => ?_);refine tk 0 ?_; refine tk 1 ?_; refine tk 3 ?_; refine tk 4 ?_; refine tk 5 ?_; refine tk 6 ?_;refine cl 2 (HPM.out _) (fun _ hb => hHeld.next hb) (fun y1 hb hH1 => ?_);refine cl 7 (HMD.out _) (fun _ hb => hH1.next hb) (fun y2 hb2 hH2 => ?_);refine tk 8 ?_; refine tk 9 ?_;obtain ⟨_, _, f0, f1, f2, f3, f4⟩ := id hH2.res;refine ry [10] (vl 10 (hH2.putI _ _) (fun hH3 => ?_) nl);refine tk 11 ?_; refine dn ?_
  go_wp2_with fail
  have hr := two_cells (v0 := .int .i64 R.1) (v1 := .int .i64 R.2.1) f0 f1;refine bodyPost_ret (v := .tuple #[.agg #[.int .i64 R.1, .int .i64 R.2.1], .int .i64 R.2.2]) (by simp [results, Tryz.results41, go_sem, hr.1, hr.2]) rfl ⟨rfl, ?_⟩;exact HB0.out.trans (hH3.old.mono HLO.out)
theorem validF_neg {n d : Int} (h : validF n d = true) : validF (-n) d = true := by
 obtain ⟨h1, h2, h3, h4, h5⟩ := (validF_iff _ _).1 h;exact (validF_iff _ _).2 ⟨h1, h2, by omega, by omega, by rw [Int.neg_gcd]; exact h5⟩
theorem rsub_walk (an ad bn bd : Int) (va : validF an ad = true) (vb : validF bn bd = true) (w : World) :
  Calls Tryz.prog 42 #[.agg #[.int .i64 an, .int .i64 ad], .agg #[.int .i64 bn, .int .i64 bd]] w fun e w' => e = .returned (.tuple #[.agg #[.int .i64 (addP an ad (-bn) bd).1, .int .i64 (addP an ad (-bn) bd).2.1], .int .i64 (addP an ad (-bn) bd).2.2]) ∧ Below w.heap.size w w' := by
 obtain ⟨_, _, B3, B4, -⟩ := (validF_iff _ _).1 vb;have HNG := lh fun w' => rneg_any bn bd B3 B4 w';have HAD := lh fun w' => radd_walk an ad (-bn) bd va (validF_neg vb) w';generalize addP an ad (-bn) bd = R at *;have hb0 : Below w.heap.size w (((w.alloc (.cells #[.int .i64 an, .int .i64 ad] 29)).alloc (.cells #[.int .i64 bn, .int .i64 bd] 29)).alloc (.cells #[.int .i64 0, .int .i64 0] 29)) := ((below_new w _).alloc (by simp) _).alloc (by simp; omega) _;obtain ⟨c0, c1, -, -, -⟩ := ((FI.put w an ad 29).carry (below_new _ (.cells #[.int .i64 bn, .int .i64 bd] 29))).carry (below_new ((w.alloc (.cells #[.int .i64 an, .int .i64 ad] 29)).alloc (.cells #[.int .i64 bn, .int .i64 bd] 29)) (.cells #[.int .i64 0, .int .i64 0] 29));have e2 := (FI.put (w.alloc (.cells #[.int .i64 an, .int .i64 ad] 29)) bn bd 29).carry (below_new ((w.alloc (.cells #[.int .i64 an, .int .i64 ad] 29)).alloc (.cells #[.int .i64 bn, .int .i64 bd] 29)) (.cells #[.int .i64 0, .int .i64 0] 29));rw [show (w.alloc (.cells #[.int .i64 an, .int .i64 ad] 29)).heap.size = w.heap.size + 1 by simp] at e2;obtain ⟨c2, c3, -, -, -⟩ := e2
 have hN : NewI6 (((w.alloc (.cells #[.int .i64 an, .int .i64 ad] 29)).alloc (.cells #[.int .i64 bn, .int .i64 bd] 29)).alloc (.cells #[.int .i64 0, .int .i64 0] 29)) (w.heap.size + 1 + 1) := by
  have e := NewI6.new ((w.alloc (.cells #[.int .i64 an, .int .i64 ad] 29)).alloc (.cells #[.int .i64 bn, .int .i64 bd] 29)) 29;rw [show ((w.alloc (.cells #[.int .i64 an, .int .i64 ad] 29)).alloc (.cells #[.int .i64 bn, .int .i64 bd] 29)).heap.size = w.heap.size + 1 + 1 by simp] at e;exact e
 clear va vb B3 B4
 go_enter Tryz.func42, Tryz.ntmps42
 go_upto_region 1 with (fail)
 obtain ⟨W0, hW0⟩ := nm ((((w.alloc (.cells #[.int .i64 an, .int .i64 ad] 29)).alloc (.cells #[.int .i64 bn, .int .i64 bd] 29)).alloc (.cells #[.int .i64 0, .int .i64 0] 29)) : World);simp only [hW0] at hb0 c0 c1 c2 c3 hN ⊢;clear hW0;obtain ⟨D1, hD1⟩ := nm (w.heap.size);obtain ⟨D2, hD2⟩ := nm (w.heap.size + 1);obtain ⟨n₀, hn0⟩ := nm (w.heap.size + 1 + 1);have hl1 : D1 < n₀ := by omega
 have hl2 : D2 < n₀ := by omega
 have HLO : Hid (w.heap.size ≤ n₀) := lh (by omega);have HB0 := lh hb0;rw [hn0] at hN ⊢;rw [hD2] at c2 c3 ⊢;rw [hD1] at c0 c1 ⊢;clear hD1 hD2 hn0 hb0;have k0 : ∀ w', HR n₀ W0 [] w' → w'.cell? ⟨D1, 0, none⟩ = some (.int .i64 an) := fun w' z => (z.old.cell (p := ⟨D1, 0, none⟩) hl1).trans c0;have k1 : ∀ w', HR n₀ W0 [] w' → w'.cell? ⟨D1, 1, none⟩ = some (.int .i64 ad) := fun w' z => (z.old.cell (p := ⟨D1, 1, none⟩) hl1).trans c1;have k2 : ∀ w', HR n₀ W0 [] w' → w'.cell? ⟨D2, 0, none⟩ = some (.int .i64 bn) := fun w' z => (z.old.cell (p := ⟨D2, 0, none⟩) hl2).trans c2;have k3 : ∀ w', HR n₀ W0 [] w' → w'.cell? ⟨D2, 1, none⟩ = some (.int .i64 bd) := fun w' z => (z.old.cell (p := ⟨D2, 1, none⟩) hl2).trans c3;have hH : HR n₀ W0 [] W0 := ⟨br, ⟨0, 0, hN⟩, fun p hp => by cases hp⟩;clear c0 c1 c2 c3 hN;refine wp_region_held_drew (S := HR n₀ W0 []) (by kernel_rfl) (hH.next (br).drew) (fun hHeld => ?_);refine tk 0 ?_; refine tk 1 ?_;refine cl 2 (HNG.out _) (fun _ hb => hHeld.next hb) (fun y1 hb hH1 => ?_);refine cl 3 (HAD.out _) (fun _ hb => hH1.next hb) (fun y2 hb2 hH2 => ?_);refine tk 4 ?_; refine tk 5 ?_;obtain ⟨_, _, f0, f1, f2, f3, f4⟩ := id hH2.res;refine ry [6] (vl 6 (hH2.putI _ _) (fun hH3 => ?_) nl);refine tk 7 ?_; refine dn ?_
 go_wp2_with fail
 have hr := two_cells (v0 := .int .i64 R.1) (v1 := .int .i64 R.2.1) f0 f1;refine bodyPost_ret (v := .tuple #[.agg #[.int .i64 R.1, .int .i64 R.2.1], .int .i64 R.2.2]) (by simp [results, Tryz.results42, go_sem, hr.1, hr.2]) rfl ⟨rfl, ?_⟩;exact HB0.out.trans (hH3.old.mono HLO.out)
end
section
open Go.RowKit Go.Shelf
theorem ret_cells {w : World} {B : Nat} {o : Obj} {v0 v1 u0 u1 : Value} (g0 : w.cell? ⟨B, 0, none⟩ = some u0) (g1 : w.cell? ⟨B, 1, none⟩ = some u1) :
  (((w.setCell ⟨B, 0, none⟩ v0).setCell ⟨B, 1, none⟩ v1).alloc o).cell? ⟨B, 0, none⟩ = some v0 ∧ (((w.setCell ⟨B, 0, none⟩ v0).setCell ⟨B, 1, none⟩ v1).alloc o).cell? ⟨B, 1, none⟩ = some v1 := by
 have hz : B < ((w.setCell ⟨B, 0, none⟩ v0).setCell ⟨B, 1, none⟩ v1).heap.size := by have := wl g0; simpa using this
 have h := two_cells (v0 := v0) (v1 := v1) g0 g1;exact ⟨(World.cell?_alloc_lt _ _ _ hz).trans h.1, (World.cell?_alloc_lt _ _ _ hz).trans h.2⟩

theorem rfrac_any (n d : Int) (n0 : -1152921504606846976 ≤ n) (n1 : n ≤ 1152921504606846976) (d0 : 0 < d) (d1 : d ≤ 1152921504606846976) (w : World) :
  Calls Tryz.prog 56 #[.int .i64 n, .int .i64 d] w fun e w' => e = .returned (.agg #[.int .i64 (lowN n d), .int .i64 (lowD n d)]) ∧ Below w.heap.size w w' := by
 have HM := lh (rmake_any n d n0 n1 d0 d1);have HN := lh (NewI6.new w 29);generalize lowN n d = p at *;generalize lowD n d = q at *
 go_enter Tryz.func56, Tryz.ntmps56
 go_wp2_with (go_at_call 99; (with_reducible refine (HM.out _).mono ?_); rintro e w1 ⟨rfl, hb1⟩; obtain ⟨g0, g1, g2, g3, g4⟩ := HN.out.carry hb1)
 have l0 := (ret_cells (o := .cells #[.int .i64 p, .int .i64 q] 29) (v0 := .int .i64 p) (v1 := .int .i64 q) g0 g1).1;have l1 := (ret_cells (o := .cells #[.int .i64 p, .int .i64 q] 29) (v0 := .int .i64 p) (v1 := .int .i64 q) g0 g1).2;refine bodyPost_ret (v := .agg #[.int .i64 p, .int .i64 q]) (by simp [results, Tryz.results56, go_sem, l0, l1]) rfl ⟨rfl, ?_⟩;exact below_a _ (below_s ⟨w.heap.size, 1, none⟩ _ (below_s ⟨w.heap.size, 0, none⟩ _ ((below_new _ _).trans (hb1.mono (by simp))) (Nat.le_refl _)) (Nat.le_refl _))

theorem time_sums {d : Int} {m : Mv} {t : Int} (hg : givenP d m = 0) (ht : IsTop d m.spd m.rise m.fall t) :
  0 ≤ t ∧ t ≤ 8192 ∧ 0 ≤ t * t ∧ t * t ≤ 67108864 ∧ 0 ≤ t * t * (m.rise + m.fall) ∧ t * t * (m.rise + m.fall) ≤ 2199023255552 ∧ 0 ≤ 2 * m.rise * m.fall ∧ 2 * m.rise * m.fall ≤ 536870912 ∧ 0 ≤ 2 * m.rise * m.fall * d ∧ 2 * m.rise * m.fall * d ≤ 562949953421312 ∧ 0 ≤ 2 * m.rise * m.fall * t ∧ 2 * m.rise * m.fall * t ≤ 4398046511104 := by
 obtain ⟨hv, hdd⟩ := given_ok hg;obtain ⟨V0, V1, R0, R1, F0, F1⟩ := valid_bds hv;obtain ⟨d1, d2⟩ := inB_iff.1 hdd;have t0 := ht.1;have t1 := ht.2.1;obtain ⟨B1, B2, B3, B4, _, _, _, _, _, B5, B6⟩ := room_bd (d := d) (R := m.rise) (F := m.fall) (w := t) d1 d2 (by omega) R1 (by omega) F1 (by omega) (by omega);have B7 : 2 * m.rise * m.fall * d ≤ 536870912 * 1048576 := Int.mul_le_mul B6 d2 d1 (by decide);have B8 := Int.mul_nonneg B5 d1;have B9 : 2 * m.rise * m.fall * t ≤ 536870912 * 8192 := Int.mul_le_mul B6 (by omega) (by omega) (by decide);have B10 := Int.mul_nonneg B5 t0;refine ⟨t0, by omega, B1, B2, B3, B4, B5, B6, B8, by omega, B10, by omega⟩

theorem rtime_any (d : Int) (m : Mv) (t : Int) (hg : givenP d m = 0) (ht : IsTop d m.spd m.rise m.fall t) (w : World) :
  Calls Tryz.prog 20 #[.int .i64 d, .agg #[.string m.name, .int .i64 m.to, .int .i64 m.spd, .int .i64 m.rise, .int .i64 m.fall]] w fun e w' => e = .returned (.agg #[.int .i64 (timeP d m t).1, .int .i64 (timeP d m t).2]) ∧ Below w.heap.size w w' := by
 by_cases hd : d = 0
 ·have hd' : (d == 0) = true := by simpa using hd
  have HP : Hid (timeP d m t = (0, 1)) := lh (by subst hd; exact time_zero hg);rw [HP.out];clear hd hg ht
  go_enter Tryz.func20, Tryz.ntmps20
  go_upto_region 2 with (fail)
  have hM : MvAt ((w.alloc (.cells #[.string m.name, .int .i64 m.to, .int .i64 m.spd, .int .i64 m.rise, .int .i64 m.fall] 27)).alloc (.cells #[.int .i64 0, .int .i64 0] 29)) w.heap.size m := (MvAt.new w m _).carry (below_new _ _);have hR : NewI6 ((w.alloc (.cells #[.string m.name, .int .i64 m.to, .int .i64 m.spd, .int .i64 m.rise, .int .i64 m.fall] 27)).alloc (.cells #[.int .i64 0, .int .i64 0] 29)) (w.heap.size + 1) := by have h := NewI6.new (w.alloc (.cells #[.string m.name, .int .i64 m.to, .int .i64 m.spd, .int .i64 m.rise, .int .i64 m.fall] 27)) 29; rw [World.size_alloc] at h; exact h
  have hW0 : Below w.heap.size w ((w.alloc (.cells #[.string m.name, .int .i64 m.to, .int .i64 m.spd, .int .i64 m.rise, .int .i64 m.fall] 27)).alloc (.cells #[.int .i64 0, .int .i64 0] 29)) := below_a _ (below_new _ _);obtain ⟨Br, hBr⟩ := nm (w.heap.size + 1);have hle : w.heap.size ≤ Br := by omega
  simp only [hBr] at hR ⊢;clear hBr;generalize ((w.alloc (.cells #[.string m.name, .int .i64 m.to, .int .i64 m.spd, .int .i64 m.rise, .int .i64 m.fall] 27)).alloc (.cells #[.int .i64 0, .int .i64 0] 29)) = W0 at *
  go_wp2_with (go_at_call 40; (with_reducible refine (of_any 0 _).mono ?_); rintro e w1 ⟨rfl, hb1⟩; obtain ⟨g0, g1, g2, g3, g4⟩ := hR.carry hb1)
  have l0 := (two_cells (v0 := .int .i64 0) (v1 := .int .i64 1) g0 g1).1;have l1 := (two_cells (v0 := .int .i64 0) (v1 := .int .i64 1) g0 g1).2;refine bodyPost_ret (v := .agg #[.int .i64 0, .int .i64 1]) (by simp [results, Tryz.results20, go_sem, l0, l1]) rfl ⟨rfl, ?_⟩;exact below_s _ _ (below_s _ _ (hW0.trans (hb1.mono hW0.size)) hle) hle
 ·have hd' : (d == 0) = false := by simpa using hd
  obtain ⟨hv, hdd⟩ := given_ok hg;obtain ⟨V0, V1, R0, R1, F0, F1⟩ := valid_bds hv;obtain ⟨d1, d2⟩ := inB_iff.1 hdd;have tp := top_pos (show 1 ≤ d by omega) R0 F0 V0 ht;obtain ⟨b0, b1, b2, b3, b4, b5, b6, b7, b8, b9, b10, b11⟩ := time_sums hg ht;have hpos : 0 < 2 * m.rise * m.fall * t := Int.mul_pos (posD R0 F0) (by omega);have HF := lh (rfrac_any (2 * m.rise * m.fall * d + t * t * (m.rise + m.fall)) (2 * m.rise * m.fall * t) (by omega) (by omega) hpos (by omega));have HP : Hid (timeP d m t = (lowN (2 * m.rise * m.fall * d + t * t * (m.rise + m.fall)) (2 * m.rise * m.fall * t), lowD (2 * m.rise * m.fall * d + t * t * (m.rise + m.fall)) (2 * m.rise * m.fall * t))) := lh (time_pos hg hd);rw [HP.out];have HT := lh (reftop_any d m t hg ht);have s1 : IntKind.i64.wrap (t * t) = t * t := IntWalk.i64_in _ (by omega);have s2 : IntKind.i64.wrap (m.rise + m.fall) = m.rise + m.fall := IntWalk.i64_in _ (by omega);have s3 : IntKind.i64.wrap (t * t * (m.rise + m.fall)) = t * t * (m.rise + m.fall) := IntWalk.i64_in _ (by omega);have s4 : IntKind.i64.wrap (2 * m.rise) = 2 * m.rise := IntWalk.i64_in _ (by omega);have s5 : IntKind.i64.wrap (2 * m.rise * m.fall) = 2 * m.rise * m.fall := IntWalk.i64_in _ (by omega);have s6 : IntKind.i64.wrap (2 * m.rise * m.fall * d) = 2 * m.rise * m.fall * d := IntWalk.i64_in _ (by omega);have s7 : IntKind.i64.wrap (2 * m.rise * m.fall * t) = 2 * m.rise * m.fall * t := IntWalk.i64_in _ (by omega);have s8 : IntKind.i64.wrap (2 * m.rise * m.fall * d + t * t * (m.rise + m.fall)) = 2 * m.rise * m.fall * d + t * t * (m.rise + m.fall) := IntWalk.i64_in _ (by omega);generalize lowN (2 * m.rise * m.fall * d + t * t * (m.rise + m.fall)) (2 * m.rise * m.fall * t) = p at *;generalize lowD (2 * m.rise * m.fall * d + t * t * (m.rise + m.fall)) (2 * m.rise * m.fall * t) = q at *;clear hd hg ht hv hdd b0 b1 b2 b3 b4 b5 b6 b7 b8 b9 b10 b11 hpos
  go_enter Tryz.func20, Tryz.ntmps20
  go_upto_region 3 with (fail)
  have hM : MvAt ((w.alloc (.cells #[.string m.name, .int .i64 m.to, .int .i64 m.spd, .int .i64 m.rise, .int .i64 m.fall] 27)).alloc (.cells #[.int .i64 0, .int .i64 0] 29)) w.heap.size m := (MvAt.new w m _).carry (below_new _ _);have hR : NewI6 ((w.alloc (.cells #[.string m.name, .int .i64 m.to, .int .i64 m.spd, .int .i64 m.rise, .int .i64 m.fall] 27)).alloc (.cells #[.int .i64 0, .int .i64 0] 29)) (w.heap.size + 1) := by have h := NewI6.new (w.alloc (.cells #[.string m.name, .int .i64 m.to, .int .i64 m.spd, .int .i64 m.rise, .int .i64 m.fall] 27)) 29; rw [World.size_alloc] at h; exact h
  have hW0 : Below w.heap.size w ((w.alloc (.cells #[.string m.name, .int .i64 m.to, .int .i64 m.spd, .int .i64 m.rise, .int .i64 m.fall] 27)).alloc (.cells #[.int .i64 0, .int .i64 0] 29)) := below_a _ (below_new _ _);obtain ⟨Br, hBr⟩ := nm (w.heap.size + 1);have hle : w.heap.size ≤ Br := by omega
  simp only [hBr] at hR ⊢;clear hBr;generalize ((w.alloc (.cells #[.string m.name, .int .i64 m.to, .int .i64 m.spd, .int .i64 m.rise, .int .i64 m.fall] 27)).alloc (.cells #[.int .i64 0, .int .i64 0] 29)) = W0 at *;have HM := lh hM;obtain ⟨k0, k1, k2, k3, k4⟩ := hM
  go_wp2_with (first
   | (go_at_call 55; (with_reducible refine (HT.out _).mono ?_); rintro e w1 ⟨rfl, hb1⟩; obtain ⟨k0, k1, k2, k3, k4⟩ := HM.out.carry hb1)
   | (go_at_call 56; (with_reducible refine (HF.out _).mono ?_); rintro e w2 ⟨rfl, hb2⟩; have hb3 := held_next hb1 hb2; obtain ⟨g0, g1, g2, g3, g4⟩ := hR.carry hb3))
  have l0 := (two_cells (v0 := .int .i64 p) (v1 := .int .i64 q) g0 g1).1;have l1 := (two_cells (v0 := .int .i64 p) (v1 := .int .i64 q) g0 g1).2;refine bodyPost_ret (v := .agg #[.int .i64 p, .int .i64 q]) (by simp [results, Tryz.results20, go_sem, l0, l1]) rfl ⟨rfl, ?_⟩;exact below_s _ _ (below_s _ _ (hW0.trans (hb3.mono hW0.size)) hle) hle
end
end Go.Proofs.YtbgkgahmicepdaaGreat
