/-
  THE WALKS of the reference's FindSet and Valid of houses (30), and of Valid of beams (19).
  THE WALK of the reference's Runs.
  slices.IndexFunc, ContainsFunc at cues, where the function asked reads memory behind each of them.
  THE WALKS of the reference's Small (21), Needed (25), Fill (26).
  THE WALK of the reference's Small of houses.
  THE WALK of the law's big: houses and sheets beyond what the law speaks of.
  slices.Equal at numbers: two slices that read alike are equal.
-/
import Derived.Outline
import Derived.BigQuiet
import Derived.Deep.QuietTactic
import Derived.IntWalk
import Derived.Deep.DeepCutAuto
import Derived.Test.YthldfijlcoobgaaGreatHoldsRunsG27
import Derived.Test.YthldfijlcoobgaaGreatHoldsRunsG26
import Derived.Test.YthldfijlcoobgaaGreatBat3
import Derived.Test.YthldfijlcoobgaaGreatHApp
namespace Go.Proofs.YthldfijlcoobgaaGreat
open Go.RowKit Go.Shelf
attribute [local go_sem] Oper.semAt_some
set_option maxHeartbeats 4000000 in
theorem rfind_any (h : HouseR) (s : ByteArray) (w : World) (hh : HouseIn0 w h) (hl : h.sets.length ≤ 1000) :
    Calls Tryz.prog 24 #[.agg #[.string h.name, .int .i64 h.height, .slice h.sa h.sets.length h.sc, .slice h.ra h.roofs.length h.rc], .string s] w fun e w' => e = .returned (.int .i64 (findS h.sets s)) ∧ Below w.heap.size w w' := by
  have hb0 := below_new w (.cells #[.string h.name, .int .i64 h.height, .slice h.sa h.sets.length h.sc, .slice h.ra h.roofs.length h.rc] 25)
  have hat := HouseAt.new w h 25
  have HH := Lib.hid (hh.sets.grow hb0)
  clear hh
  go_enter Tryz.func24, Tryz.ntmps24
  go_upto_region 2 with (fail)
  generalize w.alloc (.cells #[.string h.name, .int .i64 h.height, .slice h.sa h.sets.length h.sc, .slice h.ra h.roofs.length h.rc] 25) = W0 at *
  have HB0 := Lib.hid hb0
  obtain ⟨B, hB⟩ : ∃ b, w.heap.size = b := ⟨_, rfl⟩
  rw [hB] at hat ⊢
  obtain ⟨a0, a1, a2, a3⟩ := hat
  obtain ⟨sa, hsa⟩ : ∃ a, h.sa = a := ⟨_, rfl⟩
  rw [hsa] at a2 HH ⊢
  clear hB hb0 hsa
  go_loop [5] (fun i => ∃ k : Nat, k ≤ h.sets.length ∧ i = .int .i64 k ∧ Hid (∀ j, j < k → decide ((hsg h.sets j).name = s) = false)) (fun i => h.sets.length - (intOf i).toNat)
  case atStart => exact ⟨0, Nat.zero_le _, rfl, Lib.hid (fun _ h => absurd h (Nat.not_lt_zero _))⟩
  case round =>
    obtain ⟨k, hk, rfl, HA⟩ := hrel
    by_cases hlt : k < h.sets.length
    · obtain ⟨b, off, rfl, hb, hc⟩ := HH.out (by omega)
      obtain ⟨d0, -⟩ := hc k hlt
      have hs := str_eq (hsg h.sets k).name s
      clear hc
      by_cases hx : (hsg h.sets k).name = s
      · have H := Lib.hid (set_first_hit h.sets (fun r => decide (r.name = s)) k hlt (decide_eq_true hx) HA.out)
        rw [decide_eq_true hx] at hs
        clear hx
        go_wp2_with fail
        go_ret
        exact ⟨ret_int H.out.symm, HB0.out⟩
      · rw [decide_eq_false hx] at hs
        have HB' : Hid (∀ j, j < k + 1 → decide ((hsg h.sets j).name = s) = false) := Lib.hid fun j hj => by
          rcases Nat.lt_or_ge j k with l | l
          · exact HA.out j l
          · obtain rfl : j = k := by omega
            exact decide_eq_false hx
        clear hx
        go_wp2_with fail
        go_round
        case rel => exact ⟨k + 1, by omega, by go_num, HB'⟩
        case measure => simp [intOf]; omega
    · obtain rfl : k = h.sets.length := by omega
      have H := Lib.hid (set_first_miss h.sets (fun r => decide (r.name = s)) HA.out)
      go_wp2_with fail
      go_ret
      exact ⟨ret_int H.out.symm, HB0.out⟩
theorem rbetw19_any (n lo hi : Int) (w : World) :
    Calls Tryz.prog 61 #[.int .i64 n, .int .i64 lo, .int .i64 hi] w fun e w' => e = .returned (.bool (betB n lo hi)) ∧ w = w' := by
  have HR : Hid (betB n lo hi = (decide (lo ≤ n) && decide (n ≤ hi))) := Lib.hid rfl
  by_cases p1 : lo ≤ n
  · have g1 : decide (lo ≤ n) = true := decide_eq_true p1
    rw [g1] at HR
    clear p1
    go_enter Tryz.func61, Tryz.ntmps61
    go_wp2_with fail
    go_ret
    exact ⟨ret_bool (by rw [HR.out]; rfl), rfl⟩
  · have g1 : decide (lo ≤ n) = false := decide_eq_false p1
    rw [g1] at HR
    clear p1
    go_enter Tryz.func61, Tryz.ntmps61
    go_wp2_with fail
    go_ret
    exact ⟨ret_bool (by rw [HR.out]; rfl), rfl⟩
set_option maxRecDepth 100000 in
set_option maxHeartbeats 16000000 in
theorem rgrid_any (a : Option Addr) (L : List RoofR) (cap : Nat) (w : World) (hl : L.length ≤ 1000) (hL : Roofs w.heap.size w a L) :
    Calls Tryz.prog 40 #[.slice a L.length cap] w fun e w' => e = .returned (.bool (roofsB L)) ∧ Below w.heap.size w w' := by
  have HL := Lib.hid hL
  clear hL
  by_cases h20 : 20 < L.length
  · have HZ : Hid (roofsB L = false) := Lib.hid (by
      cases e : roofsB L
      · rfl
      · have := (roofsB_iff.1 e).1; omega)
    have g : decide ((20 : Int) < (L.length : Int)) = true := decide_eq_true (by omega)
    clear h20
    go_enter Tryz.func40, Tryz.ntmps40
    go_wp2_with fail
    go_ret
    exact ⟨ret_bool HZ.out.symm, Below.refl _ _⟩
  have g : decide ((20 : Int) < (L.length : Int)) = false := decide_eq_false (by omega)
  go_enter Tryz.func40, Tryz.ntmps40
  go_upto_region 4 with (fail)
  go_loopw [3, 4] (fun i _ wr => ∃ k : Nat, k ≤ L.length ∧ i = .int .i64 k ∧ Hid (∀ j, j < k → RoofAt L j) ∧ Below w.heap.size w wr) (fun i _ _ => L.length - (intOf i).toNat)
  case atStart => exact ⟨0, Nat.zero_le _, rfl, Lib.hid (fun _ h => absurd h (Nat.not_lt_zero _)), Below.refl _ _⟩
  case round =>
    obtain ⟨k, hk, rfl, HA, hB⟩ := hrel
    by_cases hlt : k < L.length
    · obtain ⟨b, off, ha, hb, hc⟩ := HL.out (by omega)
      subst ha
      have hbs := hB.size
      obtain ⟨e0, e1, e2, e3⟩ := hc k hlt
      have d0 := (hB.cell (p := ⟨b, _, none⟩) hb).trans e0
      have d1 := (hB.cell (p := ⟨b, _, none⟩) hb).trans e1
      have d2 := (hB.cell (p := ⟨b, _, none⟩) hb).trans e2
      have d3 := (hB.cell (p := ⟨b, _, none⟩) hb).trans e3
      have HNO : Hid (¬ RoofAt L k → roofsB L = false) := Lib.hid fun n => roofs_no hlt n
      have HNA : Hid (∀ j, j < k → RoofAt L j) := HA
      have HC := Lib.hid hc
      obtain ⟨x, hx⟩ : ∃ x, rg L k = x := ⟨_, rfl⟩
      rw [hx] at d0 d1 d2 d3
      have HXX := Lib.hid hx
      have hx0 : ∀ wr : World, (wr.alloc (.cells #[.string x.name, .int .i64 x.lo, .int .i64 x.hi, .int .i64 x.most] 87)).cell? ⟨wr.heap.size, 0, none⟩ = some (.string x.name) := fun wr => by simp
      clear e0 e1 e2 e3 hc hx
      cases h1 : isNameB x.name
      case false =>
        have H1 := Lib.hid h1
        have HZ := Lib.hid (HNO.out (fun q => by have := q.1.1; rw [HXX.out, H1.out] at this; cases this))
        clear h1
        go_upto_region 8 with (first
          | (go_at_call 39; (with_reducible refine (refisName_any x.name _).mono ?_); rintro e w1 ⟨rfl, rfl⟩; rw [H1.out]))
        go_wp2_with fail
        go_ret
        exact ⟨ret_bool HZ.out.symm, hB.alloc (by omega) _⟩
      have H1 := Lib.hid h1
      clear h1
      cases h2 : betB x.lo 0 x.hi
      case false =>
        have H2 := Lib.hid h2
        have HZ := Lib.hid (HNO.out (fun q => by have := q.1; rw [HXX.out] at this; have := betB_iff.2 ⟨this.2.1, this.2.2.1⟩; rw [H2.out] at this; cases this))
        clear h2
        go_upto_region 8 with (first
          | (go_at_call 39; (with_reducible refine (refisName_any x.name _).mono ?_); rintro e w1 ⟨rfl, rfl⟩; rw [H1.out])
          | (go_at_call 61; (with_reducible refine (rbetw19_any x.lo 0 x.hi _).mono ?_); rintro e w1 ⟨rfl, rfl⟩; rw [H2.out]))
        go_wp2_with fail
        go_ret
        exact ⟨ret_bool HZ.out.symm, hB.alloc (by omega) _⟩
      have H2 := Lib.hid h2
      clear h2
      cases h3 : betB x.hi 0 1048576
      case false =>
        have H3 := Lib.hid h3
        have HZ := Lib.hid (HNO.out (fun q => by have t := q.1; rw [HXX.out] at t; have := betB_iff.2 (show 0 ≤ x.hi ∧ x.hi ≤ 1048576 from ⟨by have t1 := t.2.1; have t2 := t.2.2.1; omega, t.2.2.2.1⟩); rw [H3.out] at this; cases this))
        clear h3
        go_upto_region 8 with (first
          | (go_at_call 39; (with_reducible refine (refisName_any x.name _).mono ?_); rintro e w1 ⟨rfl, rfl⟩; rw [H1.out])
          | (go_at_call 61; (with_reducible refine (rbetw19_any x.lo 0 x.hi _).mono ?_); rintro e w1 ⟨rfl, rfl⟩; rw [H2.out])
          | (go_at_call 61; (with_reducible refine (rbetw19_any x.hi 0 1048576 _).mono ?_); rintro e w1 ⟨rfl, rfl⟩; rw [H3.out]))
        go_wp2_with fail
        go_ret
        exact ⟨ret_bool HZ.out.symm, hB.alloc (by omega) _⟩
      have H3 := Lib.hid h3
      clear h3
      cases h4 : betB x.most 0 67108864
      case false =>
        have H4 := Lib.hid h4
        have HZ := Lib.hid (HNO.out (fun q => by have := q.1; rw [HXX.out] at this; have := betB_iff.2 (show 0 ≤ x.most ∧ x.most ≤ 67108864 from ⟨this.2.2.2.2.1, this.2.2.2.2.2⟩); rw [H4.out] at this; cases this))
        clear h4
        go_upto_region 8 with (first
          | (go_at_call 39; (with_reducible refine (refisName_any x.name _).mono ?_); rintro e w1 ⟨rfl, rfl⟩; rw [H1.out])
          | (go_at_call 61; (with_reducible refine (rbetw19_any x.lo 0 x.hi _).mono ?_); rintro e w1 ⟨rfl, rfl⟩; rw [H2.out])
          | (go_at_call 61; (with_reducible refine (rbetw19_any x.hi 0 1048576 _).mono ?_); rintro e w1 ⟨rfl, rfl⟩; rw [H3.out])
          | (go_at_call 61; (with_reducible refine (rbetw19_any x.most 0 67108864 _).mono ?_); rintro e w1 ⟨rfl, rfl⟩; rw [H4.out]))
        go_wp2_with fail
        go_ret
        exact ⟨ret_bool HZ.out.symm, hB.alloc (by omega) _⟩
      have H4 := Lib.hid h4
      clear h4
      have HOK : Hid (RoofOK (rg L k)) := Lib.hid (by
        rw [HXX.out]
        exact ⟨H1.out, (betB_iff.1 H2.out).1, (betB_iff.1 H2.out).2, (betB_iff.1 H3.out).2, (betB_iff.1 H4.out).1, (betB_iff.1 H4.out).2⟩)
      go_upto_region 10 with (first
        | (go_at_call 39; (with_reducible refine (refisName_any x.name _).mono ?_); rintro e w1 ⟨rfl, rfl⟩; rw [H1.out])
        | (go_at_call 61; (with_reducible refine (rbetw19_any x.lo 0 x.hi _).mono ?_); rintro e w1 ⟨rfl, rfl⟩; rw [H2.out])
        | (go_at_call 61; (with_reducible refine (rbetw19_any x.hi 0 1048576 _).mono ?_); rintro e w1 ⟨rfl, rfl⟩; rw [H3.out])
        | (go_at_call 61; (with_reducible refine (rbetw19_any x.most 0 67108864 _).mono ?_); rintro e w1 ⟨rfl, rfl⟩; rw [H4.out]))
      have hB2 : Below w.heap.size w (wr.alloc (.cells #[.string x.name, .int .i64 x.lo, .int .i64 x.hi, .int .i64 x.most] 87)) := hB.alloc (by omega) _
      have z0 := hx0 wr
      clear d0 d1 d2 d3 hx0 hB
      generalize wr.alloc (.cells #[.string x.name, .int .i64 x.lo, .int .i64 x.hi, .int .i64 x.most] 87) = w4 at *
      obtain ⟨B4, hB4⟩ : ∃ b, wr.heap.size = b := ⟨_, rfl⟩
      rw [hB4] at z0 ⊢
      have hlt4 : B4 < w4.heap.size := World.block_lt_of_cell? _ _ z0
      have Z0 := Lib.hid z0
      clear hB4 hbs z0
      obtain ⟨wo, rfl⟩ : ∃ wo : World, wo = wr := ⟨_, rfl⟩
      go_loopw [5] (fun i wr => ∃ m : Nat, m ≤ k ∧ i = .int .i64 m ∧ Hid (∀ j, j < m → (rg L j).name ≠ x.name) ∧ Below w.heap.size w wr ∧ Below w4.heap.size w4 wr) (fun i _ => k - (intOf i).toNat)
      case atStart => exact ⟨0, Nat.zero_le _, rfl, Lib.hid (fun _ h => absurd h (Nat.not_lt_zero _)), hB2, Below.refl _ _⟩
      case round =>
        clear hB2
        obtain ⟨m, hm, rfl, HM, hB, hB4⟩ := hrel
        by_cases hlm : m < k
        · obtain ⟨e0, -⟩ := HC.out m (by omega)
          have d0 := (hB.cell (p := ⟨b, _, none⟩) hb).trans e0
          have z0 := (hB4.cell (p := ⟨B4, 0, none⟩) hlt4).trans Z0.out
          have hs := str_eq (rg L m).name x.name
          have i0 : 0 ≤ (m : Int) := by omega
          have i1 : (m : Int) < (L.length : Int) := by omega
          have i2 : (m : Int) < (k : Int) := by omega
          clear e0
          by_cases hx : (rg L m).name = x.name
          · have HZ := Lib.hid (HNO.out fun q => q.2 m hlm (by rw [HXX.out]; exact hx))
            rw [decide_eq_true hx] at hs
            clear hx
            go_upto_region 12 with (fail)
            go_quiet (fail)
            go_wp2_with fail
            go_ret
            exact ⟨ret_bool HZ.out.symm, below_drewN hB _⟩
          · rw [decide_eq_false hx] at hs
            have HM2 : Hid (∀ j, j < m + 1 → (rg L j).name ≠ x.name) := Lib.hid fun j hj => by
              rcases Nat.lt_or_ge j m with l | l
              · exact HM.out j l
              · obtain rfl : j = m := by omega
                exact hx
            clear hx
            go_upto_region 12 with (fail)
            go_quiet (fail)
            go_wp2_with fail
            go_roundw
            case rel => exact ⟨m + 1, by omega, by go_num, HM2, below_drewN hB _, below_drewN hB4 _⟩
            case measure => simp [intOf]; omega
        · obtain rfl : m = k := by omega
          have HN : Hid (∀ j, j < m + 1 → RoofAt L j) := Lib.hid fun j hj => by
            rcases Nat.lt_or_ge j m with l | l
            · exact HNA.out j l
            · obtain rfl : j = m := by omega
              exact ⟨HOK.out, fun i hi => by rw [HXX.out]; exact HM.out i hi⟩
          go_wp2_with fail
          go_roundw
          case rel => exact ⟨m + 1, by omega, by go_num, HN, hB⟩
          case measure => simp [intOf]; omega
    · obtain rfl : k = L.length := by omega
      have HZ : Hid (roofsB L = true) := Lib.hid (roofsB_iff.2 ⟨by omega, HA.out⟩)
      go_wp2_with fail
      go_ret
      exact ⟨ret_bool HZ.out.symm, hB⟩
set_option maxRecDepth 100000 in
set_option maxHeartbeats 32000000 in
theorem rhouse_any (h : HouseR) (w : World) (hh : HouseIn w h) :
    Calls Tryz.prog 23 #[.agg #[.string h.name, .int .i64 h.height, .slice h.sa h.sets.length h.sc, .slice h.ra h.roofs.length h.rc]] w fun e w' => e = .returned (.bool (houseB h)) ∧ Below w.heap.size w w' := by
  have hb0 := below_new w (.cells #[.string h.name, .int .i64 h.height, .slice h.sa h.sets.length h.sc, .slice h.ra h.roofs.length h.rc] 25)
  have hl := hh.slen
  have hcap := hh.scap
  have HX : Hid (∀ w', Below (w.alloc (.cells #[.string h.name, .int .i64 h.height, .slice h.sa h.sets.length h.sc, .slice h.ra h.roofs.length h.rc] 25)).heap.size (w.alloc (.cells #[.string h.name, .int .i64 h.height, .slice h.sa h.sets.length h.sc, .slice h.ra h.roofs.length h.rc] 25)) w' → HouseAt w' w.heap.size h ∧ HouseIn w' h ∧ Below w.heap.size w w') := Lib.hid fun w' q => ⟨(HouseAt.new w h _).carry q, (hh.grow hb0).grow q, hb0.trans (q.mono hb0.size)⟩
  have HNO : Hid ((¬ (isNameB h.name = true ∧ 1 ≤ h.height ∧ h.height ≤ 1048576 ∧ h.sets.length ≤ 60 ∧ RoofsOK h.roofs)) → houseB h = false) := Lib.hid fun n => by
    cases e : houseB h
    · rfl
    · obtain ⟨a, b, c, d, e, _⟩ := houseB_iff.1 e
      exact absurd ⟨a, b, c, d, e⟩ n
  clear hh hb0
  cases h1 : isNameB h.name
  case false =>
    have H1 := Lib.hid h1
    have HZ := Lib.hid (HNO.out (fun q => by have := q.1; rw [H1.out] at this; cases this))
    go_enter Tryz.func23, Tryz.ntmps23
    go_upto_region 1 with (fail)
    generalize w.alloc (.cells #[.string h.name, .int .i64 h.height, .slice h.sa h.sets.length h.sc, .slice h.ra h.roofs.length h.rc] 25) = W0 at *
    obtain ⟨⟨a0, a1, a2, a3⟩, -, -⟩ := HX.out _ (Below.refl _ _)
    go_wp2_with (go_at_call 39; (with_reducible refine (refisName_any h.name _).mono ?_); rintro e w1 ⟨rfl, rfl⟩; rw [H1.out])
    go_ret
    exact ⟨ret_bool HZ.out.symm, (HX.out _ (Below.refl _ _)).2.2⟩
  have H1 := Lib.hid h1
  cases h2 : decide (h.height < 1)
  case true =>
    have H2 := Lib.hid h2
    have HZ := Lib.hid (HNO.out (fun q => by have := of_decide_eq_true H2.out; omega))
    go_enter Tryz.func23, Tryz.ntmps23
    go_upto_region 1 with (fail)
    generalize w.alloc (.cells #[.string h.name, .int .i64 h.height, .slice h.sa h.sets.length h.sc, .slice h.ra h.roofs.length h.rc] 25) = W0 at *
    obtain ⟨⟨a0, a1, a2, a3⟩, -, -⟩ := HX.out _ (Below.refl _ _)
    go_wp2_with (go_at_call 39; (with_reducible refine (refisName_any h.name _).mono ?_); rintro e w1 ⟨rfl, rfl⟩; rw [H1.out])
    go_ret
    exact ⟨ret_bool HZ.out.symm, (HX.out _ (Below.refl _ _)).2.2⟩
  have H2 := Lib.hid h2
  cases h3 : decide (1048576 < h.height)
  case true =>
    have H3 := Lib.hid h3
    have HZ := Lib.hid (HNO.out (fun q => by have := of_decide_eq_true H3.out; omega))
    go_enter Tryz.func23, Tryz.ntmps23
    go_upto_region 1 with (fail)
    generalize w.alloc (.cells #[.string h.name, .int .i64 h.height, .slice h.sa h.sets.length h.sc, .slice h.ra h.roofs.length h.rc] 25) = W0 at *
    obtain ⟨⟨a0, a1, a2, a3⟩, -, -⟩ := HX.out _ (Below.refl _ _)
    go_wp2_with (go_at_call 39; (with_reducible refine (refisName_any h.name _).mono ?_); rintro e w1 ⟨rfl, rfl⟩; rw [H1.out])
    go_ret
    exact ⟨ret_bool HZ.out.symm, (HX.out _ (Below.refl _ _)).2.2⟩
  have H3 := Lib.hid h3
  cases h4 : decide ((60 : Int) < (h.sets.length : Int))
  case true =>
    have H4 := Lib.hid h4
    have HZ := Lib.hid (HNO.out (fun q => by have := of_decide_eq_true H4.out; omega))
    go_enter Tryz.func23, Tryz.ntmps23
    go_upto_region 1 with (fail)
    generalize w.alloc (.cells #[.string h.name, .int .i64 h.height, .slice h.sa h.sets.length h.sc, .slice h.ra h.roofs.length h.rc] 25) = W0 at *
    obtain ⟨⟨a0, a1, a2, a3⟩, -, -⟩ := HX.out _ (Below.refl _ _)
    go_wp2_with (go_at_call 39; (with_reducible refine (refisName_any h.name _).mono ?_); rintro e w1 ⟨rfl, rfl⟩; rw [H1.out])
    go_ret
    exact ⟨ret_bool HZ.out.symm, (HX.out _ (Below.refl _ _)).2.2⟩
  have H4 := Lib.hid h4
  cases h5 : roofsB h.roofs
  case false =>
    have H5 := Lib.hid h5
    have HZ := Lib.hid (HNO.out (fun q => by have := roofsB_iff.2 q.2.2.2.2; rw [H5.out] at this; cases this))
    go_enter Tryz.func23, Tryz.ntmps23
    go_upto_region 1 with (fail)
    generalize w.alloc (.cells #[.string h.name, .int .i64 h.height, .slice h.sa h.sets.length h.sc, .slice h.ra h.roofs.length h.rc] 25) = W0 at *
    obtain ⟨⟨a0, a1, a2, a3⟩, -, -⟩ := HX.out _ (Below.refl _ _)
    go_wp2_with (first
      | (go_at_call 39; (with_reducible refine (refisName_any h.name _).mono ?_); rintro e w1 ⟨rfl, rfl⟩; rw [H1.out])
      | (go_at_call 40; (with_reducible refine (rgrid_any _ h.roofs _ _ (HX.out _ (Below.refl _ _)).2.1.rlen (HX.out _ (Below.refl _ _)).2.1.roofs).mono ?_); rintro e w1 ⟨rfl, hb1⟩; rw [H5.out]))
    go_ret
    exact ⟨ret_bool HZ.out.symm, (HX.out _ hb1).2.2⟩
  have H5 := Lib.hid h5
  have HOK : Hid (isNameB h.name = true ∧ 1 ≤ h.height ∧ h.height ≤ 1048576 ∧ h.sets.length ≤ 60 ∧ RoofsOK h.roofs) := Lib.hid ⟨H1.out, by have := of_decide_eq_false H2.out; omega, by have := of_decide_eq_false H3.out; omega, by have := of_decide_eq_false H4.out; omega, roofsB_iff.1 H5.out⟩
  clear HNO
  go_enter Tryz.func23, Tryz.ntmps23
  go_upto_region 1 with (fail)
  generalize w.alloc (.cells #[.string h.name, .int .i64 h.height, .slice h.sa h.sets.length h.sc, .slice h.ra h.roofs.length h.rc] 25) = W0 at *
  obtain ⟨⟨a0, a1, a2, a3⟩, -, -⟩ := HX.out _ (Below.refl _ _)
  go_upto_region 4 with (first
    | (go_at_call 39; (with_reducible refine (refisName_any h.name _).mono ?_); rintro e w1 ⟨rfl, rfl⟩; rw [H1.out])
    | (go_at_call 40; (with_reducible refine (rgrid_any _ h.roofs _ _ (HX.out _ (Below.refl _ _)).2.1.rlen (HX.out _ (Below.refl _ _)).2.1.roofs).mono ?_); rintro e w1 ⟨rfl, hb1⟩; rw [H5.out]))
  clear a0 a1 a2 a3 h1 h2 h3 h4 h5
  obtain ⟨B, hBB⟩ : ∃ b, w.heap.size = b := ⟨_, rfl⟩
  have HW : Hid (∀ w', Below W0.heap.size W0 w' → Below w.heap.size w w') := Lib.hid fun w' q => (HX.out w' q).2.2
  rw [hBB] at HX ⊢
  have HA : Hid (∀ w', Below W0.heap.size W0 w' → HouseAt w' B h) := Lib.hid fun w' q => (HX.out w' q).1
  have HH : Hid (∀ w', Below W0.heap.size W0 w' → HouseIn0 w' h) := Lib.hid fun w' q => (HX.out w' q).2.1.toHouseIn0
  have HALL : Hid (∀ w', Below W0.heap.size W0 w' → ∀ i, i < h.sets.length → SetIn w' (hsg h.sets i)) := Lib.hid fun w' q => (HX.out w' q).2.1.all
  have x0 : ∀ w', Below W0.heap.size W0 w' → w'.cell? ⟨B, 0, none⟩ = some (.string h.name) := fun w' q => (HA.out w' q).1
  have x1 : ∀ w', Below W0.heap.size W0 w' → w'.cell? ⟨B, 1, none⟩ = some (.int .i64 h.height) := fun w' q => (HA.out w' q).2.1
  have x2 : ∀ w', Below W0.heap.size W0 w' → w'.cell? ⟨B, 2, none⟩ = some (.slice h.sa h.sets.length h.sc) := fun w' q => (HA.out w' q).2.2.1
  have x3 : ∀ w', Below W0.heap.size W0 w' → w'.cell? ⟨B, 3, none⟩ = some (.slice h.ra h.roofs.length h.rc) := fun w' q => (HA.out w' q).2.2.2
  clear HX hBB
  go_loopw [3] (fun i wr => ∃ k : Nat, k ≤ h.sets.length ∧ i = .int .i64 k ∧ Hid (∀ j, j < k → SetAtOK h j) ∧ Below W0.heap.size W0 wr) (fun i _ => h.sets.length - (intOf i).toNat)
  case atStart => exact ⟨0, Nat.zero_le _, rfl, Lib.hid (fun _ h => absurd h (Nat.not_lt_zero _)), hb1⟩
  case round =>
    clear hb1
    obtain ⟨k, hk, rfl, HO, hB⟩ := hrel
    by_cases hlt : k < h.sets.length
    · have HNK : Hid (¬ SetAtOK h k → houseB h = false) := Lib.hid fun n => house_no hlt n
      have HSET : Hid (∀ w', Below W0.heap.size W0 w' → SetIn w' (hsg h.sets k)) := Lib.hid fun w' q => HALL.out w' q k hlt
      have HFA := Lib.hid (find_at hlt)
      obtain ⟨b, off, hsa, hb, -⟩ := (HH.out W0 (Below.refl _ _)).sets (by omega)
      have HSA := Lib.hid hsa
      have y0 : ∀ w', Below W0.heap.size W0 w' → w'.cell? ⟨b, off + k * 13, none⟩ = some (.string (hsg h.sets k).name) := fun w' q => by
        obtain ⟨b', off', e, -, hc⟩ := (HH.out w' q).sets (by omega)
        rw [HSA.out] at e
        cases e
        exact (hc k hlt).1
      have y1 : ∀ w', Below W0.heap.size W0 w' → w'.cell? ⟨b, off + k * 13 + 1, none⟩ = some (.int .i64 (hsg h.sets k).depth) := fun w' q => by
        obtain ⟨b', off', e, -, hc⟩ := (HH.out w' q).sets (by omega)
        rw [HSA.out] at e
        cases e
        exact (hc k hlt).2.1
      have y2 : ∀ w', Below W0.heap.size W0 w' → w'.cell? ⟨b, off + k * 13 + 2, none⟩ = some (.int .i64 (hsg h.sets k).low) := fun w' q => by
        obtain ⟨b', off', e, -, hc⟩ := (HH.out w' q).sets (by omega)
        rw [HSA.out] at e
        cases e
        exact (hc k hlt).2.2.1
      have y3 : ∀ w', Below W0.heap.size W0 w' → w'.cell? ⟨b, off + k * 13 + 3, none⟩ = some (.int .i64 (hsg h.sets k).high) := fun w' q => by
        obtain ⟨b', off', e, -, hc⟩ := (HH.out w' q).sets (by omega)
        rw [HSA.out] at e
        cases e
        exact (hc k hlt).2.2.2.1
      have y4 : ∀ w', Below W0.heap.size W0 w' → w'.cell? ⟨b, off + k * 13 + 4, none⟩ = some (.int .i64 (hsg h.sets k).length) := fun w' q => by
        obtain ⟨b', off', e, -, hc⟩ := (HH.out w' q).sets (by omega)
        rw [HSA.out] at e
        cases e
        exact (hc k hlt).2.2.2.2.1
      have y5 : ∀ w', Below W0.heap.size W0 w' → w'.cell? ⟨b, off + k * 13 + 5, none⟩ = some (.slice (hsg h.sets k).la (hsg h.sets k).lines.length (hsg h.sets k).lc) := fun w' q => by
        obtain ⟨b', off', e, -, hc⟩ := (HH.out w' q).sets (by omega)
        rw [HSA.out] at e
        cases e
        exact (hc k hlt).2.2.2.2.2.1
      have y6 : ∀ w', Below W0.heap.size W0 w' → w'.cell? ⟨b, off + k * 13 + 6, none⟩ = some (.int .i64 (hsg h.sets k).pipe) := fun w' q => by
        obtain ⟨b', off', e, -, hc⟩ := (HH.out w' q).sets (by omega)
        rw [HSA.out] at e
        cases e
        exact (hc k hlt).2.2.2.2.2.2.1
      have y7 : ∀ w', Below W0.heap.size W0 w' → w'.cell? ⟨b, off + k * 13 + 7, none⟩ = some (.int .i64 (hsg h.sets k).arbor) := fun w' q => by
        obtain ⟨b', off', e, -, hc⟩ := (HH.out w' q).sets (by omega)
        rw [HSA.out] at e
        cases e
        exact (hc k hlt).2.2.2.2.2.2.2.1
      have y8 : ∀ w', Below W0.heap.size W0 w' → w'.cell? ⟨b, off + k * 13 + 8, none⟩ = some (.int .i64 (hsg h.sets k).purchase) := fun w' q => by
        obtain ⟨b', off', e, -, hc⟩ := (HH.out w' q).sets (by omega)
        rw [HSA.out] at e
        cases e
        exact (hc k hlt).2.2.2.2.2.2.2.2.1
      have y9 : ∀ w', Below W0.heap.size W0 w' → w'.cell? ⟨b, off + k * 13 + 9, none⟩ = some (.int .i64 (hsg h.sets k).most) := fun w' q => by
        obtain ⟨b', off', e, -, hc⟩ := (HH.out w' q).sets (by omega)
        rw [HSA.out] at e
        cases e
        exact (hc k hlt).2.2.2.2.2.2.2.2.2.1
      have y10 : ∀ w', Below W0.heap.size W0 w' → w'.cell? ⟨b, off + k * 13 + 10, none⟩ = some (.int .i64 (hsg h.sets k).brake) := fun w' q => by
        obtain ⟨b', off', e, -, hc⟩ := (HH.out w' q).sets (by omega)
        rw [HSA.out] at e
        cases e
        exact (hc k hlt).2.2.2.2.2.2.2.2.2.2.1
      have y11 : ∀ w', Below W0.heap.size W0 w' → w'.cell? ⟨b, off + k * 13 + 11, none⟩ = some (.slice (hsg h.sets k).ia (hsg h.sets k).items.length (hsg h.sets k).ic) := fun w' q => by
        obtain ⟨b', off', e, -, hc⟩ := (HH.out w' q).sets (by omega)
        rw [HSA.out] at e
        cases e
        exact (hc k hlt).2.2.2.2.2.2.2.2.2.2.2.1
      have y12 : ∀ w', Below W0.heap.size W0 w' → w'.cell? ⟨b, off + k * 13 + 12, none⟩ = some (.slice (hsg h.sets k).ba (hsg h.sets k).bricks.length (hsg h.sets k).bc) := fun w' q => by
        obtain ⟨b', off', e, -, hc⟩ := (HH.out w' q).sets (by omega)
        rw [HSA.out] at e
        cases e
        exact (hc k hlt).2.2.2.2.2.2.2.2.2.2.2.2
      have HFS := Lib.hid fun w' (q : HouseIn0 w' h) => rfind_any h (hsg h.sets k).name w' q hl
      rw [hsa] at x2 HFS
      clear hsa
      have i0 : 0 ≤ (k : Int) := by omega
      have i1 : (k : Int) < (h.sets.length : Int) := by omega
      have HN : Hid (SetAtOK h k → ∀ j, j < k + 1 → SetAtOK h j) := Lib.hid fun q j hj => by
        rcases Nat.lt_or_ge j k with l | l
        · exact HO.out j l
        · obtain rfl : j = k := by omega
          exact q
      have HDEF : Hid (SetAtOK h k ↔ setB (hsg h.sets k) = true ∧ (hsg h.sets k).high ≤ h.height ∧ findS h.sets (hsg h.sets k).name = (k : Int)) := Lib.hid ⟨fun q => ⟨q.1, q.2.1, HFA.out.2 q.2.2⟩, fun q => ⟨q.1, q.2.1, HFA.out.1 q.2.2⟩⟩
      obtain ⟨x, hx⟩ : ∃ x, hsg h.sets k = x := ⟨_, rfl⟩
      rw [hx] at y0 y1 y2 y3 y4 y5 y6 y7 y8 y9 y10 y11 y12 HSET HDEF HFS
      clear hx HFA
      go_upto_region 6 with (fail)
      cases hv : setB x
      case false =>
        have HV := Lib.hid hv
        have HZ := Lib.hid (HNK.out fun q => by have := (HDEF.out.1 q).1; rw [HV.out] at this; cases this)
        clear hv
        refine wp_region_held_drew (S := (fun w' => Below W0.heap.size W0 w')) (by kernel_rfl) (hB.drew) (fun hHeld => ?_)
        refine tk 0 ?_; refine tk 1 ?_; refine tk 2 ?_; refine tk 3 ?_; refine tk 4 ?_
        refine wpAnyH_ready (rs := [5]) (by kernel_rfl) (by simp) ?_
        refine AllReadyH.cons (o := _) rfl (fun K hK => ?_) AllReadyH.nil
        try simp only [List.getElem_toArray, List.getElem_cons_succ, List.getElem_cons_zero]
        go_simp
        (go_at_call 41; go_split_ands; (with_reducible refine (rvalid_any x _ (HSET.out _ hHeld)).mono ?_); rintro e w5 ⟨rfl, hb5⟩; rw [HV.out])
        go_wp2_with fail
        refine hK.out _ _ (hHeld.trans (hb5.mono hHeld.size)) (fun hHeld => ?_)
        clear hK K
        try simp only [Act.put, List.setIfInBounds_toArray, List.set_cons_zero, List.set_cons_succ, List.getElem_toArray, List.getElem_cons_succ, List.getElem_cons_zero]
        refine tk 6 ?_; refine tk 7 ?_; refine sk 8 ?_; refine sk 9 ?_; refine sk 10 ?_; refine sk 11 ?_; refine sk 12 ?_; refine sk 13 ?_; refine sk 14 ?_; refine sk 15 ?_; refine sk 16 ?_; refine tk 17 ?_; refine tk 18 ?_; refine sk 19 ?_; refine sk 20 ?_; refine sk 21 ?_; refine sk 22 ?_; refine sk 23 ?_; refine sk 24 ?_; refine sk 25 ?_; refine sk 26 ?_; refine sk 27 ?_; refine sk 28 ?_; refine tk 29 ?_
        refine wpAnyH_done (by kernel_rfl) ?_ _
        go_wp2_with fail
        go_ret
        exact ⟨ret_bool HZ.out.symm, HW.out _ hHeld⟩
      have HV := Lib.hid hv
      clear hv
      cases hg1 : decide (h.height < x.high)
      case true =>
        have HZ := Lib.hid (HNK.out fun q => by have := (HDEF.out.1 q).2.1; have e := of_decide_eq_true hg1; omega)
        refine wp_region_held_drew (S := (fun w' => Below W0.heap.size W0 w')) (by kernel_rfl) (hB.drew) (fun hHeld => ?_)
        refine tk 0 ?_; refine tk 1 ?_; refine tk 2 ?_; refine tk 3 ?_; refine tk 4 ?_
        refine wpAnyH_ready (rs := [5]) (by kernel_rfl) (by simp) ?_
        refine AllReadyH.cons (o := _) rfl (fun K hK => ?_) AllReadyH.nil
        try simp only [List.getElem_toArray, List.getElem_cons_succ, List.getElem_cons_zero]
        go_simp
        (go_at_call 41; go_split_ands; (with_reducible refine (rvalid_any x _ (HSET.out _ hHeld)).mono ?_); rintro e w5 ⟨rfl, hb5⟩; rw [HV.out])
        go_wp2_with fail
        refine hK.out _ _ (hHeld.trans (hb5.mono hHeld.size)) (fun hHeld => ?_)
        clear hK K
        try simp only [Act.put, List.setIfInBounds_toArray, List.set_cons_zero, List.set_cons_succ, List.getElem_toArray, List.getElem_cons_succ, List.getElem_cons_zero]
        refine tk 6 ?_; refine tk 7 ?_; refine tk 8 ?_; refine tk 9 ?_; refine tk 10 ?_; refine tk 11 ?_; refine tk 12 ?_; refine tk 13 ?_; refine tk 14 ?_; refine tk 15 ?_; refine tk 16 ?_; refine tk 17 ?_; refine tk 18 ?_; refine sk 19 ?_; refine sk 20 ?_; refine sk 21 ?_; refine sk 22 ?_; refine sk 23 ?_; refine sk 24 ?_; refine sk 25 ?_; refine sk 26 ?_; refine sk 27 ?_; refine sk 28 ?_; refine tk 29 ?_
        refine wpAnyH_done (by kernel_rfl) ?_ _
        go_wp2_with fail
        go_ret
        exact ⟨ret_bool HZ.out.symm, HW.out _ hHeld⟩
      have HG := Lib.hid (of_decide_eq_false hg1)
      by_cases hf : findS h.sets x.name = (k : Int)
      · have HF := Lib.hid hf
        have HN2 := Lib.hid (HN.out (HDEF.out.2 ⟨HV.out, by have := HG.out; omega, hf⟩))
        clear hf
        refine wp_region_held_drew (S := (fun w' => Below W0.heap.size W0 w')) (by kernel_rfl) (hB.drew) (fun hHeld => ?_)
        refine tk 0 ?_; refine tk 1 ?_; refine tk 2 ?_; refine tk 3 ?_; refine tk 4 ?_
        refine wpAnyH_ready (rs := [5]) (by kernel_rfl) (by simp) ?_
        refine AllReadyH.cons (o := _) rfl (fun K hK => ?_) AllReadyH.nil
        try simp only [List.getElem_toArray, List.getElem_cons_succ, List.getElem_cons_zero]
        go_simp
        (go_at_call 41; go_split_ands; (with_reducible refine (rvalid_any x _ (HSET.out _ hHeld)).mono ?_); rintro e w5 ⟨rfl, hb5⟩; rw [HV.out])
        go_wp2_with fail
        refine hK.out _ _ (hHeld.trans (hb5.mono hHeld.size)) (fun hHeld => ?_)
        clear hK K
        try simp only [Act.put, List.setIfInBounds_toArray, List.set_cons_zero, List.set_cons_succ, List.getElem_toArray, List.getElem_cons_succ, List.getElem_cons_zero]
        refine tk 6 ?_; refine tk 7 ?_; refine tk 8 ?_; refine tk 9 ?_; refine tk 10 ?_; refine tk 11 ?_; refine tk 12 ?_; refine tk 13 ?_; refine tk 14 ?_; refine tk 15 ?_; refine tk 16 ?_; refine tk 17 ?_; refine tk 18 ?_; refine tk 19 ?_; refine tk 20 ?_; refine tk 21 ?_; refine tk 22 ?_; refine tk 23 ?_; refine tk 24 ?_; refine tk 25 ?_; refine tk 27 ?_
        refine wpAnyH_ready (rs := [26]) (by kernel_rfl) (by simp) ?_
        refine AllReadyH.cons (o := _) rfl (fun K hK => ?_) AllReadyH.nil
        try simp only [List.getElem_toArray, List.getElem_cons_succ, List.getElem_cons_zero]
        go_simp
        (go_at_call 24; go_split_ands; (with_reducible refine (HFS.out _ (HH.out _ hHeld)).mono ?_); rintro e w6 ⟨rfl, hb6⟩; rw [HF.out])
        go_wp2_with fail
        refine hK.out _ _ (hHeld.trans (hb6.mono hHeld.size)) (fun hHeld => ?_)
        clear hK K
        try simp only [Act.put, List.setIfInBounds_toArray, List.set_cons_zero, List.set_cons_succ, List.getElem_toArray, List.getElem_cons_succ, List.getElem_cons_zero]
        refine tk 28 ?_; refine tk 29 ?_
        refine wpAnyH_done (by kernel_rfl) ?_ _
        go_wp2_with fail
        go_roundw
        case rel => exact ⟨k + 1, by omega, by go_num, HN2, hHeld⟩
        case measure => simp [intOf]; omega
      · have HZ := Lib.hid (HNK.out fun q => hf (HDEF.out.1 q).2.2)
        obtain ⟨j, hj⟩ : ∃ j, findS h.sets x.name = j := ⟨_, rfl⟩
        rw [hj] at hf
        have HF := Lib.hid hj
        have g3 : (j != (k : Int)) = true := bne_iff_ne.2 hf
        clear hj hf
        refine wp_region_held_drew (S := (fun w' => Below W0.heap.size W0 w')) (by kernel_rfl) (hB.drew) (fun hHeld => ?_)
        refine tk 0 ?_; refine tk 1 ?_; refine tk 2 ?_; refine tk 3 ?_; refine tk 4 ?_
        refine wpAnyH_ready (rs := [5]) (by kernel_rfl) (by simp) ?_
        refine AllReadyH.cons (o := _) rfl (fun K hK => ?_) AllReadyH.nil
        try simp only [List.getElem_toArray, List.getElem_cons_succ, List.getElem_cons_zero]
        go_simp
        (go_at_call 41; go_split_ands; (with_reducible refine (rvalid_any x _ (HSET.out _ hHeld)).mono ?_); rintro e w5 ⟨rfl, hb5⟩; rw [HV.out])
        go_wp2_with fail
        refine hK.out _ _ (hHeld.trans (hb5.mono hHeld.size)) (fun hHeld => ?_)
        clear hK K
        try simp only [Act.put, List.setIfInBounds_toArray, List.set_cons_zero, List.set_cons_succ, List.getElem_toArray, List.getElem_cons_succ, List.getElem_cons_zero]
        refine tk 6 ?_; refine tk 7 ?_; refine tk 8 ?_; refine tk 9 ?_; refine tk 10 ?_; refine tk 11 ?_; refine tk 12 ?_; refine tk 13 ?_; refine tk 14 ?_; refine tk 15 ?_; refine tk 16 ?_; refine tk 17 ?_; refine tk 18 ?_; refine tk 19 ?_; refine tk 20 ?_; refine tk 21 ?_; refine tk 22 ?_; refine tk 23 ?_; refine tk 24 ?_; refine tk 25 ?_; refine tk 27 ?_
        refine wpAnyH_ready (rs := [26]) (by kernel_rfl) (by simp) ?_
        refine AllReadyH.cons (o := _) rfl (fun K hK => ?_) AllReadyH.nil
        try simp only [List.getElem_toArray, List.getElem_cons_succ, List.getElem_cons_zero]
        go_simp
        (go_at_call 24; go_split_ands; (with_reducible refine (HFS.out _ (HH.out _ hHeld)).mono ?_); rintro e w6 ⟨rfl, hb6⟩; rw [HF.out])
        go_wp2_with fail
        refine hK.out _ _ (hHeld.trans (hb6.mono hHeld.size)) (fun hHeld => ?_)
        clear hK K
        try simp only [Act.put, List.setIfInBounds_toArray, List.set_cons_zero, List.set_cons_succ, List.getElem_toArray, List.getElem_cons_succ, List.getElem_cons_zero]
        refine tk 28 ?_; refine tk 29 ?_
        refine wpAnyH_done (by kernel_rfl) ?_ _
        go_wp2_with fail
        go_ret
        exact ⟨ret_bool HZ.out.symm, HW.out _ hHeld⟩
    · obtain rfl : k = h.sets.length := by omega
      have HZ : Hid (houseB h = true) := Lib.hid (houseB_iff.2 ⟨HOK.out.1, HOK.out.2.1, HOK.out.2.2.1, HOK.out.2.2.2.1, HOK.out.2.2.2.2, HO.out⟩)
      go_wp2_with fail
      go_ret
      exact ⟨ret_bool HZ.out.symm, HW.out _ hB⟩
end Go.Proofs.YthldfijlcoobgaaGreat
namespace Go.Proofs.YthldfijlcoobgaaGreat
open Go.RowKit Go.Shelf
attribute [local go_sem] Oper.semAt_some
set_option maxRecDepth 100000 in
set_option maxHeartbeats 16000000 in
theorem refruns_any (h : HouseR) (s : SheetR) (w : World) (hh : HouseIn w h) (hs : SheetIn0 w s) (hc : s.cues.length ≤ 1000) (hm : ∀ i, i < s.cues.length → (cg s.cues i).moves.length ≤ 1000) :
    Calls Tryz.prog 7 #[.agg #[.string h.name, .int .i64 h.height, .slice h.sa h.sets.length h.sc, .slice h.ra h.roofs.length h.rc], .agg #[.slice s.ca s.cues.length s.cc, .slice s.pa s.pairs.length s.pc]] w fun e w' => Hid (∃ v c, e = .returned (.tuple #[.slice v (runsX h s.cues).length c, .int .i64 (runsE h s.cues)]) ∧ Nums w'.heap.size w' v (runsX h s.cues)) ∧ Below w.heap.size w w' := by
  have HM := Lib.hid hm
  have hsl := hh.slen
  have hb0 : Below w.heap.size w ((w.alloc (.cells #[.string h.name, .int .i64 h.height, .slice h.sa h.sets.length h.sc, .slice h.ra h.roofs.length h.rc] 25)).alloc (.cells #[.slice s.ca s.cues.length s.cc, .slice s.pa s.pairs.length s.pc] 29)) := (below_new w _).alloc (by simp) _
  have hat : HouseAt ((w.alloc (.cells #[.string h.name, .int .i64 h.height, .slice h.sa h.sets.length h.sc, .slice h.ra h.roofs.length h.rc] 25)).alloc (.cells #[.slice s.ca s.cues.length s.cc, .slice s.pa s.pairs.length s.pc] 29)) w.heap.size h := (HouseAt.new w h _).carry (below_new _ _)
  have sat : SheetAt ((w.alloc (.cells #[.string h.name, .int .i64 h.height, .slice h.sa h.sets.length h.sc, .slice h.ra h.roofs.length h.rc] 25)).alloc (.cells #[.slice s.ca s.cues.length s.cc, .slice s.pa s.pairs.length s.pc] 29)) (w.heap.size + 1) s := by unfold SheetAt; simp
  have hz : ∀ E : Int, E ≠ 0 → runsE h s.cues = E → runsX h s.cues = [] := fun E h1 h2 => by unfold runsX; rw [h2, if_neg h1]
  have HH := Lib.hid (hh.grow hb0)
  have HS := Lib.hid (hs.grow hb0)
  have HNI : Hid (∀ (w' : World) (n₀ : Nat) (v : Option Addr), Nums n₀ w' v []) := Lib.hid fun _ _ _ => Nums.nil
  clear hm hh hs
  cases hv : houseB h
  · have hE : runsE h s.cues = 1 := by unfold runsE; rw [hv, if_neg (by decide)]
    have hX := hz 1 (by decide) hE
    rw [hE, hX]
    have HV := Lib.hid hv
    clear hv hE hX hz
    go_enter Tryz.func7, Tryz.ntmps7
    go_upto_region 1 with (fail)
    obtain ⟨W0, hW0⟩ : ∃ W0 : World, (w.alloc (.cells #[.string h.name, .int .i64 h.height, .slice h.sa h.sets.length h.sc, .slice h.ra h.roofs.length h.rc] 25)).alloc (.cells #[.slice s.ca s.cues.length s.cc, .slice s.pa s.pairs.length s.pc] 29) = W0 := ⟨_, rfl⟩
    simp only [hW0] at hb0 hat sat HH HS ⊢
    clear hW0
    obtain ⟨a0, a1, a2, a3⟩ := hat
    go_wp2_with (go_at_call 23; (with_reducible refine (rhouse_any h _ HH.out).mono ?_); rintro e w1 ⟨rfl, hb1⟩; rw [HV.out])
    go_ret2
    exact ⟨Lib.hid ⟨none, 0, rfl, HNI.out _ _ _⟩, hb0.trans (hb1.mono hb0.size)⟩
  · have HV := Lib.hid hv
    have hE0 : runsE h s.cues = if 60 < s.cues.length ∨ 100 < (movesOf s.cues).length then 4 else if allIn (idxs h.sets (movesOf s.cues)) = true then 0 else 9 := by unfold runsE; rw [hv, if_pos rfl]
    have HE0 := Lib.hid hE0
    have HZ := Lib.hid hz
    clear hv hE0 hz
    go_enter Tryz.func7, Tryz.ntmps7
    go_upto_region 1 with (fail)
    obtain ⟨W0, hW0⟩ : ∃ W0 : World, (w.alloc (.cells #[.string h.name, .int .i64 h.height, .slice h.sa h.sets.length h.sc, .slice h.ra h.roofs.length h.rc] 25)).alloc (.cells #[.slice s.ca s.cues.length s.cc, .slice s.pa s.pairs.length s.pc] 29) = W0 := ⟨_, rfl⟩
    simp only [hW0] at hb0 hat sat HH HS ⊢
    clear hW0
    obtain ⟨B1, hB1⟩ : ∃ b, w.heap.size = b := ⟨_, rfl⟩
    obtain ⟨B2, hB2⟩ : ∃ b, w.heap.size + 1 = b := ⟨_, rfl⟩
    rw [hB2] at sat ⊢
    rw [hB1] at hat ⊢
    have HAT := Lib.hid hat
    have HSA := Lib.hid sat
    obtain ⟨a0, a1, a2, a3⟩ := hat
    go_upto_region 4 with (go_at_call 23; (with_reducible refine (rhouse_any h _ HH.out).mono ?_); rintro e w1 ⟨rfl, hb1⟩; rw [HV.out])
    clear a0 a1 a2 a3 sat
    replace HAT := Lib.hid (HAT.out.carry hb1)
    replace HSA := Lib.hid (HSA.out.carry hb1)
    have HHW := Lib.hid (HH.out.grow hb1)
    have HSW := Lib.hid (HS.out.grow hb1)
    have hbw : Below w.heap.size w w1 := hb0.trans (hb1.mono hb0.size)
    have hB0w := hbw.size
    clear hb1 HH HS
    obtain ⟨s0, s1⟩ := HSA.out
    go_upto_region 5 with (fail)
    obtain ⟨W, rfl⟩ : ∃ W : World, W = w1 := ⟨_, rfl⟩
    go_loopw [6, 7] (fun ov iv wr => ∃ k : Nat, ov = .int .i64 ((movesOf (s.cues.take k)).length : Int) ∧ iv = .int .i64 k ∧ k ≤ s.cues.length ∧ (movesOf (s.cues.take k)).length ≤ 1000 * k ∧ Below W.heap.size W wr) (fun _ iv _ => s.cues.length - (intOf iv).toNat)
    case atStart => exact ⟨0, rfl, rfl, Nat.zero_le _, by simp [movesOf], Below.refl _ _⟩
    case round =>
      clear s0 s1
      obtain ⟨k, rfl, rfl, hk, hml, hB⟩ := hrel
      obtain ⟨s0, s1⟩ := HSA.out.carry hB
      by_cases hlt : k < s.cues.length
      · obtain ⟨cb, co, hca, hcb, hcc⟩ := HSW.out.lies (by omega)
        obtain ⟨e0, e1, e2, e3, e4, e5, e6⟩ := hcc k hlt
        have d4 := (hB.cell (p := ⟨cb, _, none⟩) hcb).trans e4
        have HN : Hid ((movesOf (s.cues.take (k + 1))).length = (movesOf (s.cues.take k)).length + (cg s.cues k).moves.length) := Lib.hid (by rw [movesOf_next _ hlt, List.length_append])
        have hmk := HM.out k hlt
        rw [hca] at s0
        obtain ⟨q, hq⟩ : ∃ q, cg s.cues k = q := ⟨_, rfl⟩
        rw [hq] at d4 HN hmk
        obtain ⟨mt, hmt⟩ : ∃ m : Nat, (movesOf (s.cues.take k)).length = m := ⟨_, rfl⟩
        rw [hmt] at HN hml ⊢
        clear e0 e1 e2 e3 e4 e5 e6 hcc hq hmt hca
        go_wp2_with fail
        go_roundw
        case rel => exact ⟨k + 1, by rw [HN.out]; go_num, by go_num, by omega, by rw [HN.out]; omega, hB⟩
        case measure => simp [intOf]; omega
      · obtain rfl : k = s.cues.length := by omega
        rw [List.take_length] at hml ⊢
        have hwr : Below w.heap.size w wr := hbw.trans (hB.mono hB0w)
        have HAT2 := Lib.hid (HAT.out.carry hB)
        have HSA2 := Lib.hid (HSA.out.carry hB)
        by_cases hc60 : 60 < s.cues.length
        · have hE : runsE h s.cues = 4 := by rw [HE0.out, if_pos (.inl hc60)]
          have HX4 := Lib.hid (HZ.out 4 (by decide) hE)
          have HE4 := Lib.hid hE
          have g1 : decide (60 < (s.cues.length : Int)) = true := decide_eq_true (by omega)
          clear hE hc60 hml
          go_wp2_with fail
          go_ret2
          exact ⟨Lib.hid ⟨none, 0, by rw [HE4.out, HX4.out]; rfl, by rw [HX4.out]; exact HNI.out _ _ _⟩, hwr⟩
        · have g1 : decide (60 < (s.cues.length : Int)) = false := decide_eq_false (by omega)
          by_cases hm100 : 100 < (movesOf s.cues).length
          · have hE : runsE h s.cues = 4 := by rw [HE0.out, if_pos (.inr hm100)]
            have HX4 := Lib.hid (HZ.out 4 (by decide) hE)
            have HE4 := Lib.hid hE
            have g2 : decide (100 < ((movesOf s.cues).length : Int)) = true := decide_eq_true (by omega)
            clear hE hc60 hml hm100
            go_wp2_with fail
            go_ret2
            exact ⟨Lib.hid ⟨none, 0, by rw [HE4.out, HX4.out]; rfl, by rw [HX4.out]; exact HNI.out _ _ _⟩, hwr⟩
          · have g2 : decide (100 < ((movesOf s.cues).length : Int)) = false := decide_eq_false (by omega)
            have HE1 : Hid (runsE h s.cues = if allIn (idxs h.sets (movesOf s.cues)) = true then 0 else 9) := Lib.hid (by rw [HE0.out, if_neg (by omega)])
            have hm1 : (movesOf s.cues).length ≤ 100 := by omega
            have HE9 : Hid (∀ k m, k < s.cues.length → m < (cg s.cues k).moves.length → findS h.sets (mg (cg s.cues k).moves m).set = -1 → runsE h s.cues = 9) := Lib.hid fun k m hk hm hf => by
              rw [HE1.out, allIn_no (idx_in hk hm h.sets) (by rw [hf]; decide)]
              rfl
            have HSR := Lib.hid (HSW.out.grow hB)
            have HHR := Lib.hid (HHW.out.grow hB)
            obtain ⟨a0, a1, a2, a3⟩ := HAT2.out
            obtain ⟨i0, hi, hz1, hz2, hz3⟩ := info_parts runs_int_info
            clear hc60 hm100 hml
            go_upto_region 10 with (fail)
            go_upto_region 12 with (at_make; refine wpList_make_full _ rfl _ _ 32 rfl wr.heap.size 3 i0 (.int .i64 0) 1 Tryz.underlying32 hi hz1 hz2 _ _ _ _ h.sets.length rfl rfl rfl rfl (by rw [hz3]; omega) (by unfold maxLen; omega) (Nat.le_refl _) ?_; intro w3 hown3 hg3; have HD3 := Lib.hid (show w3.ownsRow wr.heap.size 3 1 (.slice (some ⟨wr.heap.size, 0, none⟩) h.sets.length h.sets.length) h.sets.length (nflat (countTo h.sets.length [])) by rw [← made_count]; exact hown3); have hb3 : Below wr.heap.size wr w3 := (Below.refl _ _).grown hg3 (Nat.le_refl _) (fun k e => by cases e); clear hown3 hg3)
            have hgw : wr.heap.size < w3.heap.size := (HD3.out.lt _ rfl).2
            have HX : Hid (∀ w', Below wr.heap.size wr w' → HouseAt w' B1 h ∧ SheetAt w' B2 s ∧ Cues wr.heap.size w' s.ca s.cues ∧ (∀ i, i < s.cues.length → Movs wr.heap.size w' (cg s.cues i).ma (cg s.cues i).moves) ∧ Below w.heap.size w w' ∧ B1 < w'.heap.size ∧ HouseIn0 w' h) := Lib.hid fun w' q => ⟨HAT2.out.carry q, HSA2.out.carry q, HSR.out.lies.below q, fun i hi => (HSR.out.each i hi).below q, hwr.trans (q.mono hwr.size), World.block_lt_of_cell? _ _ (HAT2.out.carry q).1, HHR.out.toHouseIn0.grow q⟩
            have HFS := Lib.hid fun (nm : ByteArray) (w' : World) (q : HouseIn0 w' h) => rfind_any h nm w' q hsl
            clear HAT2 HSA2 HHR HSR HAT HSA HHW HSW a0 a1 a2 a3 s0 s1 hi hz1 hz2 hz3 i0 g1 g2 hwr hbw hB0w hb0 hB HE0 HZ HV
            obtain ⟨W1, rfl⟩ : ∃ W : World, W = wr := ⟨_, rfl⟩
            obtain ⟨g, hg⟩ : ∃ g, W1.heap.size = g := ⟨_, rfl⟩
            rw [hg] at HX HD3 hb3 hgw ⊢
            have hgW : W1.heap.size ≤ g := Nat.le_of_eq hg
            clear hg
            go_loopw [9, 10, 11] (fun iv _ _ wr => ∃ k : Nat, iv = .int .i64 k ∧ k ≤ s.cues.length ∧ Below g W1 wr ∧ g < wr.heap.size ∧ Hid (wr.ownsRow g 3 1 (.slice (some ⟨g, 0, none⟩) h.sets.length h.sets.length) h.sets.length (nflat (countTo h.sets.length (idxs h.sets (movesOf (s.cues.take k)))))) ∧ Hid (allIn (idxs h.sets (movesOf (s.cues.take k))) = true)) (fun iv _ _ _ => s.cues.length - (intOf iv).toNat)
            case atStart => exact ⟨0, rfl, Nat.zero_le _, hb3, hgw, Lib.hid (by rw [List.take_zero]; exact HD3.out), Lib.hid (by rw [List.take_zero]; rfl)⟩
            case round =>
              clear HD3 hb3 hgw
              obtain ⟨k, rfl, hk, hB, hgl, HR, HA⟩ := hrel
              by_cases hlt : k < s.cues.length
              · have HNX : Hid (movesOf (s.cues.take (k + 1)) = movesOf (s.cues.take k) ++ (cg s.cues k).moves) := Lib.hid (movesOf_next _ hlt)
                have HIN : Hid (∀ m, m < (cg s.cues k).moves.length → findS h.sets (mg (cg s.cues k).moves m).set = -1 → runsE h s.cues = 9) := Lib.hid fun m hm hf => HE9.out k m hlt hm hf
                have HMV : Hid (∀ w', Below g W1 w' → Movs g w' (cg s.cues k).ma (cg s.cues k).moves) := Lib.hid fun w' q => (HX.out w' q).2.2.2.1 k hlt
                obtain ⟨cb, co, hca, hcb, -⟩ := (HX.out _ hB).2.2.1 (by omega)
                have HCA := Lib.hid hca
                have HC4 : Hid (∀ w', Below g W1 w' → w'.cell? ⟨cb, co + k * 7 + 4, none⟩ = some (.slice (cg s.cues k).ma (cg s.cues k).moves.length (cg s.cues k).mc)) := Lib.hid fun w' q => by
                  obtain ⟨b', o', e, -, hc⟩ := (HX.out w' q).2.2.1 (by omega)
                  rw [HCA.out] at e
                  cases e
                  exact (hc k hlt).2.2.2.2.1
                have hmk := HM.out k hlt
                obtain ⟨q, hq⟩ : ∃ q, cg s.cues k = q := ⟨_, rfl⟩
                rw [hq] at HNX HIN HMV hmk HC4
                clear hq
                have HKN : Hid (idxs h.sets (movesOf (s.cues.take (k + 1))) = idxs h.sets (movesOf (s.cues.take k)) ++ idxs h.sets q.moves) := Lib.hid (by rw [HNX.out, idxs_append])
                obtain ⟨K, hK⟩ : ∃ K, idxs h.sets (movesOf (s.cues.take k)) = K := ⟨_, rfl⟩
                rw [hK] at HR HA HKN
                have hkl : K.length ≤ 100 := by rw [← hK]; unfold idxs; rw [List.length_map]; have := movesOf_part s.cues k; omega
                clear hK HNX
                obtain ⟨-, ⟨s0, s1⟩, -⟩ := HX.out _ hB
                go_upto_region 15 with (fail)
                clear s0 s1 hca
                obtain ⟨wo, rfl⟩ : ∃ wo : World, wo = wr := ⟨_, rfl⟩
                go_loopw [10, 11] (fun iv _ wr => ∃ m : Nat, iv = .int .i64 m ∧ m ≤ q.moves.length ∧ Below g W1 wr ∧ g < wr.heap.size ∧ Hid (wr.ownsRow g 3 1 (.slice (some ⟨g, 0, none⟩) h.sets.length h.sets.length) h.sets.length (nflat (countTo h.sets.length (K ++ idxs h.sets (q.moves.take m))))) ∧ Hid (allIn (K ++ idxs h.sets (q.moves.take m)) = true)) (fun iv _ _ => q.moves.length - (intOf iv).toNat)
                case atStart => exact ⟨0, rfl, Nat.zero_le _, hB, hgl, Lib.hid (by rw [List.take_zero, show idxs h.sets [] = [] from rfl, List.append_nil]; exact HR.out), Lib.hid (by rw [List.take_zero, show idxs h.sets [] = [] from rfl, List.append_nil]; exact HA.out)⟩
                case round =>
                  clear HR hB hgl HA
                  obtain ⟨m, rfl, hm, hB, hgl, HR, HA⟩ := hrel
                  have c4 := HC4.out _ hB
                  obtain ⟨-, ⟨s0, s1⟩, -⟩ := HX.out _ hB
                  rw [HCA.out] at s0
                  have k0 : 0 ≤ (k : Int) := by omega
                  have k1 : (k : Int) < (s.cues.length : Int) := by omega
                  by_cases hlm : m < q.moves.length
                  · have HNX : Hid (K ++ idxs h.sets (q.moves.take (m + 1)) = (K ++ idxs h.sets (q.moves.take m)) ++ [findS h.sets (mg q.moves m).set]) := Lib.hid (by rw [idxs_snoc _ _ hlm, List.append_assoc])
                    have HI9 := Lib.hid (HIN.out m hlm)
                    obtain ⟨mb, mo, hma, hmb, -⟩ := HMV.out _ hB (by omega)
                    have HMA := Lib.hid hma
                    have y0 : ∀ w', Below g W1 w' → w'.cell? ⟨mb, mo + m * 5, none⟩ = some (.string (mg q.moves m).set) := fun w' z => by
                      obtain ⟨b', o', e, -, hc⟩ := HMV.out w' z (by omega)
                      rw [HMA.out] at e
                      cases e
                      exact (hc m hlm).1
                    have y1 : ∀ w', Below g W1 w' → w'.cell? ⟨cb, co + k * 7 + 4, none⟩ = some (.slice (some ⟨mb, mo, none⟩) q.moves.length q.mc) := fun w' z => by rw [← HMA.out]; exact HC4.out w' z
                    have y2 : ∀ w', Below g W1 w' → w'.cell? ⟨B2, 0, none⟩ = some (.slice (some ⟨cb, co, none⟩) s.cues.length s.cc) := fun w' z => by rw [← HCA.out]; exact (HX.out w' z).2.1.1
                    have x0 : ∀ w', Below g W1 w' → w'.cell? ⟨B1, 0, none⟩ = some (.string h.name) := fun w' z => (HX.out w' z).1.1
                    have x1 : ∀ w', Below g W1 w' → w'.cell? ⟨B1, 1, none⟩ = some (.int .i64 h.height) := fun w' z => (HX.out w' z).1.2.1
                    have x2 : ∀ w', Below g W1 w' → w'.cell? ⟨B1, 2, none⟩ = some (.slice h.sa h.sets.length h.sc) := fun w' z => (HX.out w' z).1.2.2.1
                    have x3 : ∀ w', Below g W1 w' → w'.cell? ⟨B1, 3, none⟩ = some (.slice h.ra h.roofs.length h.rc) := fun w' z => (HX.out w' z).1.2.2.2
                    obtain ⟨x, hx⟩ : ∃ x, (mg q.moves m).set = x := ⟨_, rfl⟩
                    rw [hx] at y0 HNX HI9
                    obtain ⟨K2, hK2⟩ : ∃ K2, K ++ idxs h.sets (q.moves.take m) = K2 := ⟨_, rfl⟩
                    rw [hK2] at HR HA HNX
                    have hkl2 : K2.length ≤ 1100 := by rw [← hK2]; unfold idxs; rw [List.length_append, List.length_map, List.length_take]; omega
                    have m0 : 0 ≤ (m : Int) := by omega
                    have m1 : (m : Int) < (q.moves.length : Int) := by omega
                    clear hx hK2 hma
                    go_upto_region 17 with (fail)
                    clear s0 s1 c4
                    rcases findS_range h.sets x with hf | ⟨j, hj, hf⟩
                    · have HZ9 := Lib.hid (HI9.out hf)
                      have HX9 : Hid (runsX h s.cues = []) := Lib.hid (by unfold runsX; rw [HZ9.out, if_neg (by decide)])
                      have HFX := Lib.hid (HFS.out x)
                      rw [hf] at HFX
                      clear hf HI9
                      refine wp_region_held_drew (S := (fun w' => Below g W1 w')) (by kernel_rfl) (hB.drew) (fun hHeld => ?_)
                      refine tk 0 ?_; refine tk 1 ?_; refine tk 2 ?_; refine tk 3 ?_; refine tk 4 ?_; refine tk 5 ?_; refine tk 6 ?_; refine tk 7 ?_; refine tk 8 ?_; refine tk 9 ?_; refine tk 10 ?_
                      refine wpAnyH_ready (rs := [11]) (by kernel_rfl) (by simp) ?_
                      refine AllReadyH.cons (o := _) rfl (fun K hK => ?_) AllReadyH.nil
                      try simp only [List.getElem_toArray, List.getElem_cons_succ, List.getElem_cons_zero]
                      go_simp
                      (go_at_call 24; go_split_ands; (with_reducible refine (HFX.out _ (HX.out _ hHeld).2.2.2.2.2.2).mono ?_); rintro e w6 ⟨rfl, hb6⟩)
                      go_wp2_with fail
                      refine hK.out _ _ (hHeld.trans (hb6.mono (Nat.le_of_lt (show g < wr.heap.size from hgl)))) (fun hHeld => ?_)
                      clear hK K
                      try simp only [Act.put, List.setIfInBounds_toArray, List.set_cons_zero, List.set_cons_succ, List.getElem_toArray, List.getElem_cons_succ, List.getElem_cons_zero]
                      refine tk 12 ?_
                      refine wpAnyH_done (by kernel_rfl) ?_ _
                      go_wp2_with fail
                      go_ret2
                      exact ⟨Lib.hid ⟨none, 0, by rw [HZ9.out, HX9.out]; rfl, by rw [HX9.out]; exact HNI.out _ _ _⟩, (HX.out _ hHeld).2.2.2.2.1⟩
                    · have HNS : Hid (countTo h.sets.length (K2 ++ [findS h.sets x]) = (countTo h.sets.length K2).set j (ig (countTo h.sets.length K2) j + 1)) := Lib.hid (by rw [hf]; exact countTo_snoc K2 hj)
                      have hcn : ig (countTo h.sets.length K2) j = cntK K2 j := countTo_at K2 hj
                      have HALL : Hid (allIn (K2 ++ [findS h.sets x]) = true) := Lib.hid (by rw [allIn_append, HA.out, hf]; unfold allIn; simp)
                      have hc1 := cntK_le K2 j
                      have s1 : IntKind.i64.wrap (ig (countTo h.sets.length K2) j + 1) = ig (countTo h.sets.length K2) j + 1 := IntWalk.i64_in _ (by omega)
                      have HCL : Hid ((countTo h.sets.length K2).length = h.sets.length) := Lib.hid (countTo_len _ _)
                      have HFX := Lib.hid (HFS.out x)
                      rw [hf] at HFX HNS HALL HNX
                      have HRD := Lib.hid (show wr.drew.ownsRow g 3 1 (.slice (some ⟨g, 0, none⟩) h.sets.length h.sets.length) h.sets.length (nflat (countTo h.sets.length K2)) from HR.out)
                      have HS1 := Lib.hid s1
                      clear hf HI9 HA hcn hc1 s1
                      refine wp_region_held_drew (S := (fun w' => Below g W1 w')) (by kernel_rfl) (hB.drew) (fun hHeld => ?_)
                      refine tk 0 ?_; refine tk 1 ?_; refine tk 2 ?_; refine tk 3 ?_; refine tk 4 ?_; refine tk 5 ?_; refine tk 6 ?_; refine tk 7 ?_; refine tk 8 ?_; refine tk 9 ?_; refine tk 10 ?_
                      refine wpAnyH_ready (rs := [11]) (by kernel_rfl) (by simp) ?_
                      refine AllReadyH.cons (o := _) rfl (fun K hK => ?_) AllReadyH.nil
                      try simp only [List.getElem_toArray, List.getElem_cons_succ, List.getElem_cons_zero]
                      go_simp
                      (go_at_call 24; go_split_ands; (with_reducible refine (HFX.out _ (HX.out _ hHeld).2.2.2.2.2.2).mono ?_); rintro e w6 ⟨rfl, hb6⟩; have HR6 := Lib.hid (ownsRow_below HRD.out hb6); have how : g < w6.heap.size := (Nat.lt_of_lt_of_le hgl hb6.size))
                      go_wp2_with fail
                      refine hK.out _ _ (hHeld.trans (hb6.mono (Nat.le_of_lt (show g < wr.heap.size from hgl)))) (fun hHeld => ?_)
                      clear hK K
                      try simp only [Act.put, List.setIfInBounds_toArray, List.set_cons_zero, List.set_cons_succ, List.getElem_toArray, List.getElem_cons_succ, List.getElem_cons_zero]
                      refine tk 12 ?_
                      refine wpAnyH_done (by kernel_rfl) ?_ _
                      have o2 : w6.cell? ⟨g, j, none⟩ = some (.int .i64 (ig (countTo h.sets.length K2) j)) := by rw [HR6.out.cellAt j (by omega), nflat_at _ _ (by rw [HCL.out]; exact hj)]
                      have o3 := HR6.out.frozenAt j
                      have s1 := HS1.out
                      obtain ⟨v, hv⟩ : ∃ v, ig (countTo h.sets.length K2) j = v := ⟨_, rfl⟩
                      rw [hv] at o2 s1 HNS
                      clear hv
                      go_wp2_with fail
                      have HST := Lib.hid (show (w6.setCell ⟨g, j, none⟩ (.int .i64 (v + 1))).ownsRow g 3 1 (.slice (some ⟨g, 0, none⟩) h.sets.length h.sets.length) h.sets.length (nflat (countTo h.sets.length (K2 ++ [(j : Int)]))) by rw [HNS.out, nflat_set']; exact (HR6.out.stored j _).1)
                      go_roundw
                      case rel => exact ⟨m + 1, by go_num, by omega, hHeld.setCell (show g ≤ (⟨g, j, none⟩ : Addr).block from Nat.le_refl _) _, by simp; omega, Lib.hid (by rw [HNX.out]; exact HST.out), Lib.hid (by rw [HNX.out]; exact HALL.out)⟩
                      case measure => simp [intOf]; omega
                  · obtain rfl : m = q.moves.length := by omega
                    rw [List.take_length] at HR HA
                    go_wp2_with fail
                    go_roundw
                    case rel => exact ⟨k + 1, by go_num, by omega, hB, hgl, Lib.hid (by rw [HKN.out]; exact HR.out), Lib.hid (by rw [HKN.out]; exact HA.out)⟩
                    case measure => simp [intOf]; omega
              · obtain rfl : k = s.cues.length := by omega
                rw [List.take_length] at HR HA
                have HE : Hid (runsE h s.cues = 0) := Lib.hid (by rw [HE1.out, HA.out]; rfl)
                have HXF : Hid (runsX h s.cues = countTo h.sets.length (idxs h.sets (movesOf s.cues))) := Lib.hid (by unfold runsX; rw [HE.out, if_pos rfl])
                obtain ⟨-, ⟨s0, s1⟩, -⟩ := HX.out _ hB
                go_wp2_with fail
                go_ret2
                obtain ⟨a, c, e1, _, _, _, e5⟩ := num_of_row (L := countTo h.sets.length (idxs h.sets (movesOf s.cues))) (by rw [countTo_len]; exact HR.out)
                rw [countTo_len] at e1
                exact ⟨Lib.hid ⟨a, c, by rw [HE.out, HXF.out, countTo_len, ← e1]; rfl, by rw [HXF.out]; exact e5⟩, (HX.out _ hB).2.2.2.2.1⟩
end Go.Proofs.YthldfijlcoobgaaGreat
namespace Go.Proofs.YthldfijlcoobgaaGreat
open Go.RowKit Go.Shelf
attribute [local go_sem] Oper.semAt_some

set_option maxHeartbeats 2000000 in
theorem cue_indexFuncM (a : Option Addr) (L : List (CueR)) (cap n₀ g : Nat) (cb : Array Value) (p : CueR → Bool) (w : World) (eg : ∀ args w, (callFunc g args).run Tryz.prog w = .ok (.enter g args) w)
    (hl : L.length ≤ 1100) (hn₀ : n₀ ≤ w.heap.size) (hI : Cues n₀ w a L) (hp : ∀ W i, i < L.length → Below n₀ w W → Calls Tryz.prog g (#[.agg #[.string (cg L i).name, .string (cg L i).after, .int .i64 (cg L i).link, .int .i64 (cg L i).delay, .slice (cg L i).ma (cg L i).moves.length (cg L i).mc, .int .i64 (cg L i).crew, .int .i64 (cg L i).power]] ++ cb) W fun e w' => e = .returned (.bool (p (cg L i))) ∧ Below W.heap.size W w') :
    Calls Tryz.prog 33 #[.slice a L.length cap, .func (.func g) #[] cb] w fun e w' => e = .returned (.int .i64 (cue_first L p)) ∧ Below w.heap.size w w' := by
  have HI := Lib.hid hI; clear hI
  have HP := Lib.hid hp; clear hp
  go_enter Tryz.func33, Tryz.ntmps33
  go_wp2
  go_loopw [8] (fun i wr => ∃ k : Nat, k ≤ L.length ∧ i = .int .i64 k ∧ Below w.heap.size w wr ∧ Hid (∀ j, j < k → p (cg L j) = false)) (fun i _ => L.length - (intOf i).toNat)
  case atStart => exact ⟨0, Nat.zero_le _, rfl, Below.refl _ _, Lib.hid (fun _ h => absurd h (Nat.not_lt_zero _))⟩
  case round =>
    obtain ⟨k, hk, rfl, hB, HA⟩ := hrel
    by_cases hlt : k < L.length
    · obtain ⟨b, off, rfl, hb, hc⟩ := HI.out (by omega)
      obtain ⟨c0, c1, c2, c3, c4, c5, c6⟩ := hc k hlt
      have d0 := (hB.cell (p := ⟨b, off + k * 7, none⟩) (show b < w.heap.size by omega)).trans c0
      have d1 := (hB.cell (p := ⟨b, off + k * 7 + 1, none⟩) (show b < w.heap.size by omega)).trans c1
      have d2 := (hB.cell (p := ⟨b, off + k * 7 + 2, none⟩) (show b < w.heap.size by omega)).trans c2
      have d3 := (hB.cell (p := ⟨b, off + k * 7 + 3, none⟩) (show b < w.heap.size by omega)).trans c3
      have d4 := (hB.cell (p := ⟨b, off + k * 7 + 4, none⟩) (show b < w.heap.size by omega)).trans c4
      have d5 := (hB.cell (p := ⟨b, off + k * 7 + 5, none⟩) (show b < w.heap.size by omega)).trans c5
      have d6 := (hB.cell (p := ⟨b, off + k * 7 + 6, none⟩) (show b < w.heap.size by omega)).trans c6
      clear c0 c1 c2 c3 c4 c5 c6 hc
      have HC := Lib.hid (show Calls Tryz.prog g (#[.agg #[.string (cg L k).name, .string (cg L k).after, .int .i64 (cg L k).link, .int .i64 (cg L k).delay, .slice (cg L k).ma (cg L k).moves.length (cg L k).mc, .int .i64 (cg L k).crew, .int .i64 (cg L k).power]] ++ cb) wr _ from HP.out wr k hlt (hB.mono hn₀))
      obtain ⟨bv, hbv⟩ : ∃ bv, p (cg L k) = bv := ⟨_, rfl⟩
      rw [hbv] at HC
      cases bv
      · have HB : Hid (∀ j, j < k + 1 → p (cg L j) = false) := Lib.hid fun j hj => by
          rcases Nat.lt_or_ge j k with l | l
          · exact HA.out j l
          · obtain rfl : j = k := by omega
            exact hbv
        clear hbv
        go_wp2_with ((with_reducible refine HC.out.mono ?_); rintro e w1 ⟨rfl, hb1⟩)
        go_roundw
        case rel => exact ⟨k + 1, by omega, by go_num, hB.trans (hb1.mono hB.size), HB⟩
        case measure => simp [intOf]; omega
      · have H := Lib.hid (cue_first_hit L p k hlt hbv HA.out)
        clear hbv
        go_wp2_with ((with_reducible refine HC.out.mono ?_); rintro e w1 ⟨rfl, hb1⟩)
        go_ret
        exact ⟨ret_int H.out.symm, hB.trans (hb1.mono hB.size)⟩
    · obtain rfl : k = L.length := by omega
      have H := Lib.hid (cue_first_miss L p HA.out)
      go_wp2
      go_ret
      exact ⟨ret_int H.out.symm, hB⟩

set_option maxHeartbeats 1000000 in
theorem cue_containsFuncM (a : Option Addr) (L : List (CueR)) (cap n₀ g : Nat) (cb : Array Value) (p : CueR → Bool) (w : World) (eg : ∀ args w, (callFunc g args).run Tryz.prog w = .ok (.enter g args) w)
    (hl : L.length ≤ 1100) (hn₀ : n₀ ≤ w.heap.size) (hI : Cues n₀ w a L) (hp : ∀ W i, i < L.length → Below n₀ w W → Calls Tryz.prog g (#[.agg #[.string (cg L i).name, .string (cg L i).after, .int .i64 (cg L i).link, .int .i64 (cg L i).delay, .slice (cg L i).ma (cg L i).moves.length (cg L i).mc, .int .i64 (cg L i).crew, .int .i64 (cg L i).power]] ++ cb) W fun e w' => e = .returned (.bool (p (cg L i))) ∧ Below W.heap.size W w') :
    Calls Tryz.prog 16 #[.slice a L.length cap, .func (.func g) #[] cb] w fun e w' => e = .returned (.bool (cue_any L p)) ∧ Below w.heap.size w w' := by
  have HC := Lib.hid (cue_indexFuncM a L cap n₀ g cb p w eg hl hn₀ hI hp)
  clear hI hp eg
  go_enter Tryz.func16, Tryz.ntmps16
  go_wp2_with (go_at_call 33; (with_reducible refine HC.out.mono ?_); rintro e w1 ⟨rfl, hb1⟩)
  go_ret
  exact ⟨rfl, hb1⟩
end Go.Proofs.YthldfijlcoobgaaGreat
namespace Go.Proofs.YthldfijlcoobgaaGreat
open Go.RowKit Go.Shelf
attribute [local go_sem] Oper.semAt_some
/-- A set is small: few items, short names. -/
def SmallP (r : SetR) (most : Int) : Prop := r.name.size ≤ 60 ∧ r.lines.length ≤ 12 ∧ ((r.items.length : Int) ≤ most ∨ 40 < r.items.length) ∧ r.items.length ≤ 45 ∧ r.bricks.length ≤ 10 ∧ (∀ j, j < r.items.length → (tg r.items j).name.size ≤ 60) ∧ ∀ j, j < r.bricks.length → (bg r.bricks j).name.size ≤ 60
instance (r : SetR) (most : Int) : Decidable (SmallP r most) := by unfold SmallP; infer_instance
def smallB (r : SetR) (most : Int) : Bool := decide (SmallP r most)
theorem small_in {w : World} {r : SetR} {most : Int} (h : SetIn0 w r) (hs : smallB r most = true) : SetIn w r := by
  obtain ⟨_, _, _, _, _, h6, h7⟩ := of_decide_eq_true hs
  refine ⟨h, fun x hx => ?_, fun x hx => ?_⟩
  · obtain ⟨j, hj, rfl⟩ := List.getElem_of_mem hx
    have := h6 j hj
    rw [tg_eq _ j hj] at this
    omega
  · obtain ⟨j, hj, rfl⟩ := List.getElem_of_mem hx
    have := h7 j hj
    rw [bg_eq _ j hj] at this
    omega
set_option maxRecDepth 100000 in
set_option maxHeartbeats 32000000 in
theorem small_any (r : SetR) (most : Int) (w : World) (hs : SetIn0 w r) :
    Calls Tryz.prog 32 #[.agg #[.string r.name, .int .i64 r.depth, .int .i64 r.low, .int .i64 r.high, .int .i64 r.length, .slice r.la r.lines.length r.lc, .int .i64 r.pipe, .int .i64 r.arbor, .int .i64 r.purchase, .int .i64 r.most, .int .i64 r.brake, .slice r.ia r.items.length r.ic, .slice r.ba r.bricks.length r.bc], .int .i64 most] w fun e w' => e = .returned (.bool (smallB r most)) ∧ Below w.heap.size w w' := by
  obtain ⟨R, hR⟩ : ∃ R, smallB r most = R := ⟨_, rfl⟩
  have HI : Hid (R = true ↔ SmallP r most) := Lib.hid (by rw [← hR]; unfold smallB; exact decide_eq_true_iff)
  rw [hR]
  clear hR
  have hb0 := below_new w (.cells #[.string r.name, .int .i64 r.depth, .int .i64 r.low, .int .i64 r.high, .int .i64 r.length, .slice r.la r.lines.length r.lc, .int .i64 r.pipe, .int .i64 r.arbor, .int .i64 r.purchase, .int .i64 r.most, .int .i64 r.brake, .slice r.ia r.items.length r.ic, .slice r.ba r.bricks.length r.bc] 71)
  have HX : Hid (∀ wx, Below (w.alloc (.cells #[.string r.name, .int .i64 r.depth, .int .i64 r.low, .int .i64 r.high, .int .i64 r.length, .slice r.la r.lines.length r.lc, .int .i64 r.pipe, .int .i64 r.arbor, .int .i64 r.purchase, .int .i64 r.most, .int .i64 r.brake, .slice r.ia r.items.length r.ic, .slice r.ba r.bricks.length r.bc] 71)).heap.size (w.alloc (.cells #[.string r.name, .int .i64 r.depth, .int .i64 r.low, .int .i64 r.high, .int .i64 r.length, .slice r.la r.lines.length r.lc, .int .i64 r.pipe, .int .i64 r.arbor, .int .i64 r.purchase, .int .i64 r.most, .int .i64 r.brake, .slice r.ia r.items.length r.ic, .slice r.ba r.bricks.length r.bc] 71)) wx → Below w.heap.size w wx) := Lib.hid fun wx h => mono_in _ h
  have HS : Hid (∀ wx, Below (w.alloc (.cells #[.string r.name, .int .i64 r.depth, .int .i64 r.low, .int .i64 r.high, .int .i64 r.length, .slice r.la r.lines.length r.lc, .int .i64 r.pipe, .int .i64 r.arbor, .int .i64 r.purchase, .int .i64 r.most, .int .i64 r.brake, .slice r.ia r.items.length r.ic, .slice r.ba r.bricks.length r.bc] 71)).heap.size (w.alloc (.cells #[.string r.name, .int .i64 r.depth, .int .i64 r.low, .int .i64 r.high, .int .i64 r.length, .slice r.la r.lines.length r.lc, .int .i64 r.pipe, .int .i64 r.arbor, .int .i64 r.purchase, .int .i64 r.most, .int .i64 r.brake, .slice r.ia r.items.length r.ic, .slice r.ba r.bricks.length r.bc] 71)) wx → SetIn0 wx r) := Lib.hid fun wx h => (hs.grow hb0).grow h
  have HAT : Hid (∀ wx, Below (w.alloc (.cells #[.string r.name, .int .i64 r.depth, .int .i64 r.low, .int .i64 r.high, .int .i64 r.length, .slice r.la r.lines.length r.lc, .int .i64 r.pipe, .int .i64 r.arbor, .int .i64 r.purchase, .int .i64 r.most, .int .i64 r.brake, .slice r.ia r.items.length r.ic, .slice r.ba r.bricks.length r.bc] 71)).heap.size (w.alloc (.cells #[.string r.name, .int .i64 r.depth, .int .i64 r.low, .int .i64 r.high, .int .i64 r.length, .slice r.la r.lines.length r.lc, .int .i64 r.pipe, .int .i64 r.arbor, .int .i64 r.purchase, .int .i64 r.most, .int .i64 r.brake, .slice r.ia r.items.length r.ic, .slice r.ba r.bricks.length r.bc] 71)) wx → SetAt wx w.heap.size r) := Lib.hid fun wx h => (SetAt.new w r 71).below h (by simp)
  clear hb0 hs
  by_cases q0 : 60 < r.name.size
  · have ga868 : decide ((60 : Int) < (r.name.size : Int)) = true := decide_eq_true (by omega)
    have gb868 : decide (60 < r.name.size) = true := decide_eq_true (by omega)
    have HR : Hid (R = false) := Lib.hid (by
      rw [Bool.eq_false_iff]
      intro h
      obtain ⟨s1, s2, s3, s4, s5, _, _⟩ := HI.out.1 h
      omega)
    clear q0
    go_enter Tryz.func32, Tryz.ntmps32
    go_wp2_with fail
    generalize (w.alloc (.cells #[.string r.name, .int .i64 r.depth, .int .i64 r.low, .int .i64 r.high, .int .i64 r.length, .slice r.la r.lines.length r.lc, .int .i64 r.pipe, .int .i64 r.arbor, .int .i64 r.purchase, .int .i64 r.most, .int .i64 r.brake, .slice r.ia r.items.length r.ic, .slice r.ba r.bricks.length r.bc] 71)) = W0 at *
    have hB1 := Below.refl W0.heap.size W0
    have x0 : ∀ wx, Below W0.heap.size W0 wx → wx.cell? ⟨w.heap.size, 0, none⟩ = some (.string r.name) := fun wx h => (HAT.out wx h).1
    have x5 : ∀ wx, Below W0.heap.size W0 wx → wx.cell? ⟨w.heap.size, 5, none⟩ = some (.slice r.la r.lines.length r.lc) := fun wx h => (HAT.out wx h).2.2.2.2.2.1
    have x11 : ∀ wx, Below W0.heap.size W0 wx → wx.cell? ⟨w.heap.size, 11, none⟩ = some (.slice r.ia r.items.length r.ic) := fun wx h => (HAT.out wx h).2.2.2.2.2.2.2.2.2.2.2.1
    have x12 : ∀ wx, Below W0.heap.size W0 wx → wx.cell? ⟨w.heap.size, 12, none⟩ = some (.slice r.ba r.bricks.length r.bc) := fun wx h => (HAT.out wx h).2.2.2.2.2.2.2.2.2.2.2.2
    go_wp2_with fail
    go_ret
    exact ⟨ret_bool HR.out.symm, HX.out _ hB1⟩
  have ga868 : decide ((60 : Int) < (r.name.size : Int)) = false := decide_eq_false (by omega)
  have gb868 : decide (60 < r.name.size) = false := decide_eq_false (by omega)
  by_cases q1 : 12 < r.lines.length
  · have ga686 : decide ((12 : Int) < (r.lines.length : Int)) = true := decide_eq_true (by omega)
    have gb686 : decide (12 < r.lines.length) = true := decide_eq_true (by omega)
    have HR : Hid (R = false) := Lib.hid (by
      rw [Bool.eq_false_iff]
      intro h
      obtain ⟨s1, s2, s3, s4, s5, _, _⟩ := HI.out.1 h
      omega)
    clear q0 q1
    go_enter Tryz.func32, Tryz.ntmps32
    go_wp2_with fail
    generalize (w.alloc (.cells #[.string r.name, .int .i64 r.depth, .int .i64 r.low, .int .i64 r.high, .int .i64 r.length, .slice r.la r.lines.length r.lc, .int .i64 r.pipe, .int .i64 r.arbor, .int .i64 r.purchase, .int .i64 r.most, .int .i64 r.brake, .slice r.ia r.items.length r.ic, .slice r.ba r.bricks.length r.bc] 71)) = W0 at *
    have hB1 := Below.refl W0.heap.size W0
    have x0 : ∀ wx, Below W0.heap.size W0 wx → wx.cell? ⟨w.heap.size, 0, none⟩ = some (.string r.name) := fun wx h => (HAT.out wx h).1
    have x5 : ∀ wx, Below W0.heap.size W0 wx → wx.cell? ⟨w.heap.size, 5, none⟩ = some (.slice r.la r.lines.length r.lc) := fun wx h => (HAT.out wx h).2.2.2.2.2.1
    have x11 : ∀ wx, Below W0.heap.size W0 wx → wx.cell? ⟨w.heap.size, 11, none⟩ = some (.slice r.ia r.items.length r.ic) := fun wx h => (HAT.out wx h).2.2.2.2.2.2.2.2.2.2.2.1
    have x12 : ∀ wx, Below W0.heap.size W0 wx → wx.cell? ⟨w.heap.size, 12, none⟩ = some (.slice r.ba r.bricks.length r.bc) := fun wx h => (HAT.out wx h).2.2.2.2.2.2.2.2.2.2.2.2
    go_wp2_with fail
    go_ret
    exact ⟨ret_bool HR.out.symm, HX.out _ hB1⟩
  have ga686 : decide ((12 : Int) < (r.lines.length : Int)) = false := decide_eq_false (by omega)
  have gb686 : decide (12 < r.lines.length) = false := decide_eq_false (by omega)
  by_cases q2 : most < (r.items.length : Int)
  · have gc : decide (most < (r.items.length : Int)) = true := decide_eq_true q2
    by_cases q3 : r.items.length ≤ 40
    · have gd : decide ((r.items.length : Int) ≤ 40) = true := decide_eq_true (by omega)
      have ge : decide (r.items.length ≤ 40) = true := decide_eq_true (by omega)
      have HR : Hid (R = false) := Lib.hid (by
        rw [Bool.eq_false_iff]
        intro h
        obtain ⟨s1, s2, s3, s4, s5, _, _⟩ := HI.out.1 h
        omega)
      clear q0 q1 q2 q3
      go_enter Tryz.func32, Tryz.ntmps32
      go_wp2_with fail
      generalize (w.alloc (.cells #[.string r.name, .int .i64 r.depth, .int .i64 r.low, .int .i64 r.high, .int .i64 r.length, .slice r.la r.lines.length r.lc, .int .i64 r.pipe, .int .i64 r.arbor, .int .i64 r.purchase, .int .i64 r.most, .int .i64 r.brake, .slice r.ia r.items.length r.ic, .slice r.ba r.bricks.length r.bc] 71)) = W0 at *
      have hB1 := Below.refl W0.heap.size W0
      have x0 : ∀ wx, Below W0.heap.size W0 wx → wx.cell? ⟨w.heap.size, 0, none⟩ = some (.string r.name) := fun wx h => (HAT.out wx h).1
      have x5 : ∀ wx, Below W0.heap.size W0 wx → wx.cell? ⟨w.heap.size, 5, none⟩ = some (.slice r.la r.lines.length r.lc) := fun wx h => (HAT.out wx h).2.2.2.2.2.1
      have x11 : ∀ wx, Below W0.heap.size W0 wx → wx.cell? ⟨w.heap.size, 11, none⟩ = some (.slice r.ia r.items.length r.ic) := fun wx h => (HAT.out wx h).2.2.2.2.2.2.2.2.2.2.2.1
      have x12 : ∀ wx, Below W0.heap.size W0 wx → wx.cell? ⟨w.heap.size, 12, none⟩ = some (.slice r.ba r.bricks.length r.bc) := fun wx h => (HAT.out wx h).2.2.2.2.2.2.2.2.2.2.2.2
      go_wp2_with fail
      go_ret
      exact ⟨ret_bool HR.out.symm, HX.out _ hB1⟩
    have gd : decide ((r.items.length : Int) ≤ 40) = false := decide_eq_false (by omega)
    have ge : decide (r.items.length ≤ 40) = false := decide_eq_false (by omega)
    by_cases q4 : 45 < r.items.length
    · have ga102 : decide ((45 : Int) < (r.items.length : Int)) = true := decide_eq_true (by omega)
      have gb102 : decide (45 < r.items.length) = true := decide_eq_true (by omega)
      have HR : Hid (R = false) := Lib.hid (by
        rw [Bool.eq_false_iff]
        intro h
        obtain ⟨s1, s2, s3, s4, s5, _, _⟩ := HI.out.1 h
        omega)
      clear q0 q1 q2 q3 q4
      go_enter Tryz.func32, Tryz.ntmps32
      go_wp2_with fail
      generalize (w.alloc (.cells #[.string r.name, .int .i64 r.depth, .int .i64 r.low, .int .i64 r.high, .int .i64 r.length, .slice r.la r.lines.length r.lc, .int .i64 r.pipe, .int .i64 r.arbor, .int .i64 r.purchase, .int .i64 r.most, .int .i64 r.brake, .slice r.ia r.items.length r.ic, .slice r.ba r.bricks.length r.bc] 71)) = W0 at *
      have hB1 := Below.refl W0.heap.size W0
      have x0 : ∀ wx, Below W0.heap.size W0 wx → wx.cell? ⟨w.heap.size, 0, none⟩ = some (.string r.name) := fun wx h => (HAT.out wx h).1
      have x5 : ∀ wx, Below W0.heap.size W0 wx → wx.cell? ⟨w.heap.size, 5, none⟩ = some (.slice r.la r.lines.length r.lc) := fun wx h => (HAT.out wx h).2.2.2.2.2.1
      have x11 : ∀ wx, Below W0.heap.size W0 wx → wx.cell? ⟨w.heap.size, 11, none⟩ = some (.slice r.ia r.items.length r.ic) := fun wx h => (HAT.out wx h).2.2.2.2.2.2.2.2.2.2.2.1
      have x12 : ∀ wx, Below W0.heap.size W0 wx → wx.cell? ⟨w.heap.size, 12, none⟩ = some (.slice r.ba r.bricks.length r.bc) := fun wx h => (HAT.out wx h).2.2.2.2.2.2.2.2.2.2.2.2
      go_wp2_with fail
      go_ret
      exact ⟨ret_bool HR.out.symm, HX.out _ hB1⟩
    have ga102 : decide ((45 : Int) < (r.items.length : Int)) = false := decide_eq_false (by omega)
    have gb102 : decide (45 < r.items.length) = false := decide_eq_false (by omega)
    by_cases q5 : 10 < r.bricks.length
    · have ga387 : decide ((10 : Int) < (r.bricks.length : Int)) = true := decide_eq_true (by omega)
      have gb387 : decide (10 < r.bricks.length) = true := decide_eq_true (by omega)
      have HR : Hid (R = false) := Lib.hid (by
        rw [Bool.eq_false_iff]
        intro h
        obtain ⟨s1, s2, s3, s4, s5, _, _⟩ := HI.out.1 h
        omega)
      clear q0 q1 q2 q3 q4 q5
      go_enter Tryz.func32, Tryz.ntmps32
      go_wp2_with fail
      generalize (w.alloc (.cells #[.string r.name, .int .i64 r.depth, .int .i64 r.low, .int .i64 r.high, .int .i64 r.length, .slice r.la r.lines.length r.lc, .int .i64 r.pipe, .int .i64 r.arbor, .int .i64 r.purchase, .int .i64 r.most, .int .i64 r.brake, .slice r.ia r.items.length r.ic, .slice r.ba r.bricks.length r.bc] 71)) = W0 at *
      have hB1 := Below.refl W0.heap.size W0
      have x0 : ∀ wx, Below W0.heap.size W0 wx → wx.cell? ⟨w.heap.size, 0, none⟩ = some (.string r.name) := fun wx h => (HAT.out wx h).1
      have x5 : ∀ wx, Below W0.heap.size W0 wx → wx.cell? ⟨w.heap.size, 5, none⟩ = some (.slice r.la r.lines.length r.lc) := fun wx h => (HAT.out wx h).2.2.2.2.2.1
      have x11 : ∀ wx, Below W0.heap.size W0 wx → wx.cell? ⟨w.heap.size, 11, none⟩ = some (.slice r.ia r.items.length r.ic) := fun wx h => (HAT.out wx h).2.2.2.2.2.2.2.2.2.2.2.1
      have x12 : ∀ wx, Below W0.heap.size W0 wx → wx.cell? ⟨w.heap.size, 12, none⟩ = some (.slice r.ba r.bricks.length r.bc) := fun wx h => (HAT.out wx h).2.2.2.2.2.2.2.2.2.2.2.2
      go_wp2_with fail
      go_ret
      exact ⟨ret_bool HR.out.symm, HX.out _ hB1⟩
    have ga387 : decide ((10 : Int) < (r.bricks.length : Int)) = false := decide_eq_false (by omega)
    have gb387 : decide (10 < r.bricks.length) = false := decide_eq_false (by omega)
    go_enter Tryz.func32, Tryz.ntmps32
    go_wp2_with fail
    generalize (w.alloc (.cells #[.string r.name, .int .i64 r.depth, .int .i64 r.low, .int .i64 r.high, .int .i64 r.length, .slice r.la r.lines.length r.lc, .int .i64 r.pipe, .int .i64 r.arbor, .int .i64 r.purchase, .int .i64 r.most, .int .i64 r.brake, .slice r.ia r.items.length r.ic, .slice r.ba r.bricks.length r.bc] 71)) = W0 at *
    have hB1 := Below.refl W0.heap.size W0
    have x0 : ∀ wx, Below W0.heap.size W0 wx → wx.cell? ⟨w.heap.size, 0, none⟩ = some (.string r.name) := fun wx h => (HAT.out wx h).1
    have x5 : ∀ wx, Below W0.heap.size W0 wx → wx.cell? ⟨w.heap.size, 5, none⟩ = some (.slice r.la r.lines.length r.lc) := fun wx h => (HAT.out wx h).2.2.2.2.2.1
    have x11 : ∀ wx, Below W0.heap.size W0 wx → wx.cell? ⟨w.heap.size, 11, none⟩ = some (.slice r.ia r.items.length r.ic) := fun wx h => (HAT.out wx h).2.2.2.2.2.2.2.2.2.2.2.1
    have x12 : ∀ wx, Below W0.heap.size W0 wx → wx.cell? ⟨w.heap.size, 12, none⟩ = some (.slice r.ba r.bricks.length r.bc) := fun wx h => (HAT.out wx h).2.2.2.2.2.2.2.2.2.2.2.2
    go_loop [5] (fun v => ∃ k : Nat, k ≤ r.items.length ∧ v = .int .i64 k ∧ Hid (∀ j, j < k → (tg r.items j).name.size ≤ 60)) (fun v => r.items.length - (intOf v).toNat)
    case atStart => exact ⟨0, Nat.zero_le _, rfl, Lib.hid (fun j hj => by omega)⟩
    case round =>
      obtain ⟨k, hk, rfl, HO1⟩ := hrel
      by_cases hlt : k < r.items.length
      · obtain ⟨b, off, hia, hb, hc⟩ := (HS.out _ hB1).items (by omega)
        have y := x11 W0 hB1
        rw [hia] at y
        have c0 := (hc k hlt).1
        clear hc hia x11
        have k1 : (k : Int) < r.items.length := by omega
        obtain ⟨s, hs⟩ : ∃ s, (tg r.items k).name = s := ⟨_, rfl⟩
        rw [hs] at c0
        by_cases q : 60 < s.size
        · have ga : decide ((60 : Int) < (s.size : Int)) = true := decide_eq_true (by omega)
          have gb : decide (60 < s.size) = true := decide_eq_true (by omega)
          have HR : Hid (R = false) := Lib.hid (by
            rw [Bool.eq_false_iff]
            intro h
            have := (HI.out.1 h).2.2.2.2.2.1 k hlt
            rw [hs] at this
            omega)
          clear q hs
          go_wp2_with fail
          go_ret
          exact ⟨ret_bool HR.out.symm, HX.out _ hB1⟩
        · have ga : decide ((60 : Int) < (s.size : Int)) = false := decide_eq_false (by omega)
          have gb : decide (60 < s.size) = false := decide_eq_false (by omega)
          have HN : Hid (∀ j, j < k + 1 → (tg r.items j).name.size ≤ 60) := Lib.hid fun j hj => by
            rcases (show j < k ∨ j = k by omega) with l | l
            · exact HO1.out j l
            · subst l; rw [hs]; omega
          clear q hs
          go_wp2_with fail
          go_round
          case rel => exact ⟨k + 1, by omega, by go_num, HN⟩
          case measure => simp [intOf]; omega
      · obtain rfl : k = r.items.length := by omega
        go_wp2_with fail
        go_loop [6] (fun v => ∃ k : Nat, k ≤ r.bricks.length ∧ v = .int .i64 k ∧ Hid (∀ j, j < k → (bg r.bricks j).name.size ≤ 60)) (fun v => r.bricks.length - (intOf v).toNat)
        case atStart => exact ⟨0, Nat.zero_le _, rfl, Lib.hid (fun j hj => by omega)⟩
        case round =>
          obtain ⟨k, hk, rfl, HO2⟩ := hrel
          by_cases hlt : k < r.bricks.length
          · obtain ⟨b, off, hia, hb, hc⟩ := (HS.out _ hB1).bricks (by omega)
            have y := x12 W0 hB1
            rw [hia] at y
            have c0 := (hc k hlt).1
            clear hc hia x12
            have k1 : (k : Int) < r.bricks.length := by omega
            obtain ⟨s, hs⟩ : ∃ s, (bg r.bricks k).name = s := ⟨_, rfl⟩
            rw [hs] at c0
            by_cases q : 60 < s.size
            · have ga : decide ((60 : Int) < (s.size : Int)) = true := decide_eq_true (by omega)
              have gb : decide (60 < s.size) = true := decide_eq_true (by omega)
              have HR : Hid (R = false) := Lib.hid (by
                rw [Bool.eq_false_iff]
                intro h
                have := (HI.out.1 h).2.2.2.2.2.2 k hlt
                rw [hs] at this
                omega)
              clear q hs
              go_wp2_with fail
              go_ret
              exact ⟨ret_bool HR.out.symm, HX.out _ hB1⟩
            · have ga : decide ((60 : Int) < (s.size : Int)) = false := decide_eq_false (by omega)
              have gb : decide (60 < s.size) = false := decide_eq_false (by omega)
              have HN : Hid (∀ j, j < k + 1 → (bg r.bricks j).name.size ≤ 60) := Lib.hid fun j hj => by
                rcases (show j < k ∨ j = k by omega) with l | l
                · exact HO2.out j l
                · subst l; rw [hs]; omega
              clear q hs
              go_wp2_with fail
              go_round
              case rel => exact ⟨k + 1, by omega, by go_num, HN⟩
              case measure => simp [intOf]; omega
          · obtain rfl : k = r.bricks.length := by omega
            have HR : Hid (R = true) := Lib.hid (HI.out.2 ⟨by omega, by omega, by omega, by omega, by omega, HO1.out, HO2.out⟩)
            go_wp2_with fail
            go_ret
            exact ⟨ret_bool HR.out.symm, HX.out _ hB1⟩
  · have gc : decide (most < (r.items.length : Int)) = false := decide_eq_false q2
    by_cases q4 : 45 < r.items.length
    · have ga102 : decide ((45 : Int) < (r.items.length : Int)) = true := decide_eq_true (by omega)
      have gb102 : decide (45 < r.items.length) = true := decide_eq_true (by omega)
      have HR : Hid (R = false) := Lib.hid (by
        rw [Bool.eq_false_iff]
        intro h
        obtain ⟨s1, s2, s3, s4, s5, _, _⟩ := HI.out.1 h
        omega)
      clear q0 q1 q2 q4
      go_enter Tryz.func32, Tryz.ntmps32
      go_wp2_with fail
      generalize (w.alloc (.cells #[.string r.name, .int .i64 r.depth, .int .i64 r.low, .int .i64 r.high, .int .i64 r.length, .slice r.la r.lines.length r.lc, .int .i64 r.pipe, .int .i64 r.arbor, .int .i64 r.purchase, .int .i64 r.most, .int .i64 r.brake, .slice r.ia r.items.length r.ic, .slice r.ba r.bricks.length r.bc] 71)) = W0 at *
      have hB1 := Below.refl W0.heap.size W0
      have x0 : ∀ wx, Below W0.heap.size W0 wx → wx.cell? ⟨w.heap.size, 0, none⟩ = some (.string r.name) := fun wx h => (HAT.out wx h).1
      have x5 : ∀ wx, Below W0.heap.size W0 wx → wx.cell? ⟨w.heap.size, 5, none⟩ = some (.slice r.la r.lines.length r.lc) := fun wx h => (HAT.out wx h).2.2.2.2.2.1
      have x11 : ∀ wx, Below W0.heap.size W0 wx → wx.cell? ⟨w.heap.size, 11, none⟩ = some (.slice r.ia r.items.length r.ic) := fun wx h => (HAT.out wx h).2.2.2.2.2.2.2.2.2.2.2.1
      have x12 : ∀ wx, Below W0.heap.size W0 wx → wx.cell? ⟨w.heap.size, 12, none⟩ = some (.slice r.ba r.bricks.length r.bc) := fun wx h => (HAT.out wx h).2.2.2.2.2.2.2.2.2.2.2.2
      go_wp2_with fail
      go_ret
      exact ⟨ret_bool HR.out.symm, HX.out _ hB1⟩
    have ga102 : decide ((45 : Int) < (r.items.length : Int)) = false := decide_eq_false (by omega)
    have gb102 : decide (45 < r.items.length) = false := decide_eq_false (by omega)
    by_cases q5 : 10 < r.bricks.length
    · have ga387 : decide ((10 : Int) < (r.bricks.length : Int)) = true := decide_eq_true (by omega)
      have gb387 : decide (10 < r.bricks.length) = true := decide_eq_true (by omega)
      have HR : Hid (R = false) := Lib.hid (by
        rw [Bool.eq_false_iff]
        intro h
        obtain ⟨s1, s2, s3, s4, s5, _, _⟩ := HI.out.1 h
        omega)
      clear q0 q1 q2 q4 q5
      go_enter Tryz.func32, Tryz.ntmps32
      go_wp2_with fail
      generalize (w.alloc (.cells #[.string r.name, .int .i64 r.depth, .int .i64 r.low, .int .i64 r.high, .int .i64 r.length, .slice r.la r.lines.length r.lc, .int .i64 r.pipe, .int .i64 r.arbor, .int .i64 r.purchase, .int .i64 r.most, .int .i64 r.brake, .slice r.ia r.items.length r.ic, .slice r.ba r.bricks.length r.bc] 71)) = W0 at *
      have hB1 := Below.refl W0.heap.size W0
      have x0 : ∀ wx, Below W0.heap.size W0 wx → wx.cell? ⟨w.heap.size, 0, none⟩ = some (.string r.name) := fun wx h => (HAT.out wx h).1
      have x5 : ∀ wx, Below W0.heap.size W0 wx → wx.cell? ⟨w.heap.size, 5, none⟩ = some (.slice r.la r.lines.length r.lc) := fun wx h => (HAT.out wx h).2.2.2.2.2.1
      have x11 : ∀ wx, Below W0.heap.size W0 wx → wx.cell? ⟨w.heap.size, 11, none⟩ = some (.slice r.ia r.items.length r.ic) := fun wx h => (HAT.out wx h).2.2.2.2.2.2.2.2.2.2.2.1
      have x12 : ∀ wx, Below W0.heap.size W0 wx → wx.cell? ⟨w.heap.size, 12, none⟩ = some (.slice r.ba r.bricks.length r.bc) := fun wx h => (HAT.out wx h).2.2.2.2.2.2.2.2.2.2.2.2
      go_wp2_with fail
      go_ret
      exact ⟨ret_bool HR.out.symm, HX.out _ hB1⟩
    have ga387 : decide ((10 : Int) < (r.bricks.length : Int)) = false := decide_eq_false (by omega)
    have gb387 : decide (10 < r.bricks.length) = false := decide_eq_false (by omega)
    go_enter Tryz.func32, Tryz.ntmps32
    go_wp2_with fail
    generalize (w.alloc (.cells #[.string r.name, .int .i64 r.depth, .int .i64 r.low, .int .i64 r.high, .int .i64 r.length, .slice r.la r.lines.length r.lc, .int .i64 r.pipe, .int .i64 r.arbor, .int .i64 r.purchase, .int .i64 r.most, .int .i64 r.brake, .slice r.ia r.items.length r.ic, .slice r.ba r.bricks.length r.bc] 71)) = W0 at *
    have hB1 := Below.refl W0.heap.size W0
    have x0 : ∀ wx, Below W0.heap.size W0 wx → wx.cell? ⟨w.heap.size, 0, none⟩ = some (.string r.name) := fun wx h => (HAT.out wx h).1
    have x5 : ∀ wx, Below W0.heap.size W0 wx → wx.cell? ⟨w.heap.size, 5, none⟩ = some (.slice r.la r.lines.length r.lc) := fun wx h => (HAT.out wx h).2.2.2.2.2.1
    have x11 : ∀ wx, Below W0.heap.size W0 wx → wx.cell? ⟨w.heap.size, 11, none⟩ = some (.slice r.ia r.items.length r.ic) := fun wx h => (HAT.out wx h).2.2.2.2.2.2.2.2.2.2.2.1
    have x12 : ∀ wx, Below W0.heap.size W0 wx → wx.cell? ⟨w.heap.size, 12, none⟩ = some (.slice r.ba r.bricks.length r.bc) := fun wx h => (HAT.out wx h).2.2.2.2.2.2.2.2.2.2.2.2
    go_loop [5] (fun v => ∃ k : Nat, k ≤ r.items.length ∧ v = .int .i64 k ∧ Hid (∀ j, j < k → (tg r.items j).name.size ≤ 60)) (fun v => r.items.length - (intOf v).toNat)
    case atStart => exact ⟨0, Nat.zero_le _, rfl, Lib.hid (fun j hj => by omega)⟩
    case round =>
      obtain ⟨k, hk, rfl, HO1⟩ := hrel
      by_cases hlt : k < r.items.length
      · obtain ⟨b, off, hia, hb, hc⟩ := (HS.out _ hB1).items (by omega)
        have y := x11 W0 hB1
        rw [hia] at y
        have c0 := (hc k hlt).1
        clear hc hia x11
        have k1 : (k : Int) < r.items.length := by omega
        obtain ⟨s, hs⟩ : ∃ s, (tg r.items k).name = s := ⟨_, rfl⟩
        rw [hs] at c0
        by_cases q : 60 < s.size
        · have ga : decide ((60 : Int) < (s.size : Int)) = true := decide_eq_true (by omega)
          have gb : decide (60 < s.size) = true := decide_eq_true (by omega)
          have HR : Hid (R = false) := Lib.hid (by
            rw [Bool.eq_false_iff]
            intro h
            have := (HI.out.1 h).2.2.2.2.2.1 k hlt
            rw [hs] at this
            omega)
          clear q hs
          go_wp2_with fail
          go_ret
          exact ⟨ret_bool HR.out.symm, HX.out _ hB1⟩
        · have ga : decide ((60 : Int) < (s.size : Int)) = false := decide_eq_false (by omega)
          have gb : decide (60 < s.size) = false := decide_eq_false (by omega)
          have HN : Hid (∀ j, j < k + 1 → (tg r.items j).name.size ≤ 60) := Lib.hid fun j hj => by
            rcases (show j < k ∨ j = k by omega) with l | l
            · exact HO1.out j l
            · subst l; rw [hs]; omega
          clear q hs
          go_wp2_with fail
          go_round
          case rel => exact ⟨k + 1, by omega, by go_num, HN⟩
          case measure => simp [intOf]; omega
      · obtain rfl : k = r.items.length := by omega
        go_wp2_with fail
        go_loop [6] (fun v => ∃ k : Nat, k ≤ r.bricks.length ∧ v = .int .i64 k ∧ Hid (∀ j, j < k → (bg r.bricks j).name.size ≤ 60)) (fun v => r.bricks.length - (intOf v).toNat)
        case atStart => exact ⟨0, Nat.zero_le _, rfl, Lib.hid (fun j hj => by omega)⟩
        case round =>
          obtain ⟨k, hk, rfl, HO2⟩ := hrel
          by_cases hlt : k < r.bricks.length
          · obtain ⟨b, off, hia, hb, hc⟩ := (HS.out _ hB1).bricks (by omega)
            have y := x12 W0 hB1
            rw [hia] at y
            have c0 := (hc k hlt).1
            clear hc hia x12
            have k1 : (k : Int) < r.bricks.length := by omega
            obtain ⟨s, hs⟩ : ∃ s, (bg r.bricks k).name = s := ⟨_, rfl⟩
            rw [hs] at c0
            by_cases q : 60 < s.size
            · have ga : decide ((60 : Int) < (s.size : Int)) = true := decide_eq_true (by omega)
              have gb : decide (60 < s.size) = true := decide_eq_true (by omega)
              have HR : Hid (R = false) := Lib.hid (by
                rw [Bool.eq_false_iff]
                intro h
                have := (HI.out.1 h).2.2.2.2.2.2 k hlt
                rw [hs] at this
                omega)
              clear q hs
              go_wp2_with fail
              go_ret
              exact ⟨ret_bool HR.out.symm, HX.out _ hB1⟩
            · have ga : decide ((60 : Int) < (s.size : Int)) = false := decide_eq_false (by omega)
              have gb : decide (60 < s.size) = false := decide_eq_false (by omega)
              have HN : Hid (∀ j, j < k + 1 → (bg r.bricks j).name.size ≤ 60) := Lib.hid fun j hj => by
                rcases (show j < k ∨ j = k by omega) with l | l
                · exact HO2.out j l
                · subst l; rw [hs]; omega
              clear q hs
              go_wp2_with fail
              go_round
              case rel => exact ⟨k + 1, by omega, by go_num, HN⟩
              case measure => simp [intOf]; omega
          · obtain rfl : k = r.bricks.length := by omega
            have HR : Hid (R = true) := Lib.hid (HI.out.2 ⟨by omega, by omega, by omega, by omega, by omega, HO1.out, HO2.out⟩)
            go_wp2_with fail
            go_ret
            exact ⟨ret_bool HR.out.symm, HX.out _ hB1⟩
end Go.Proofs.YthldfijlcoobgaaGreat
namespace Go.Proofs.YthldfijlcoobgaaGreat
open Go.RowKit Go.Shelf
attribute [local go_sem] Oper.semAt_some
def SmallH (h : HouseR) (most : Int) : Prop := (h.sets.length : Int) ≤ most ∧ (h.roofs.length : Int) ≤ most + 10 ∧ h.name.size ≤ 60 ∧ (∀ i, i < h.sets.length → smallB (hsg h.sets i) 8 = true) ∧ ∀ i, i < h.roofs.length → (rg h.roofs i).name.size ≤ 60
noncomputable def smallHB (h : HouseR) (most : Int) : Bool := @decide (SmallH h most) (Classical.propDecidable _)
theorem smallH_iff {h : HouseR} {most : Int} : smallHB h most = true ↔ SmallH h most := @decide_eq_true_iff (SmallH h most) (Classical.propDecidable _)
theorem smallH_no {h : HouseR} {most : Int} (n : ¬ SmallH h most) : smallHB h most = false := by
  cases e : smallHB h most
  · rfl
  · exact absurd (smallH_iff.1 e) n
theorem smallH_in {w : World} {h : HouseR} {most : Int} (hm : most ≤ 900) (x : HouseIn0 w h) (s : SmallH h most) : HouseIn w h :=
  ⟨x, fun i hi => small_in (x.each i hi) (s.2.2.2.1 i hi), by have := s.1; omega, by have := s.2.1; omega⟩
set_option maxRecDepth 100000 in
set_option maxHeartbeats 16000000 in
theorem smallH_any (h : HouseR) (most : Int) (m0 : 0 ≤ most) (m1 : most ≤ 900) (w : World) (hh : HouseIn0 w h) :
    Calls Tryz.prog 15 #[.agg #[.string h.name, .int .i64 h.height, .slice h.sa h.sets.length h.sc, .slice h.ra h.roofs.length h.rc], .int .i64 most] w fun e w' => e = .returned (.bool (smallHB h most)) ∧ Below w.heap.size w w' := by
  have HH := Lib.hid hh
  have hcap := hh.scap
  have hrcap := hh.rcap
  have hat := HouseAt.new w h 25
  obtain ⟨sa, hsa⟩ : ∃ a, h.sa = a := ⟨_, rfl⟩
  obtain ⟨ra, hra⟩ : ∃ a, h.ra = a := ⟨_, rfl⟩
  have HSA := Lib.hid hsa
  have HRA := Lib.hid hra
  rw [hsa, hra] at hat ⊢
  have HAT := Lib.hid hat
  have hW0 := below_new w (.cells #[.string h.name, .int .i64 h.height, .slice sa h.sets.length h.sc, .slice ra h.roofs.length h.rc] 25)
  have mw : IntKind.i64.wrap (most + 10) = most + 10 := IntWalk.i64_in _ (by omega)
  clear hh hat hsa hra
  cases h1 : decide (most < (h.sets.length : Int))
  case true =>
    have H1 := Lib.hid h1
    have HZ := Lib.hid (smallH_no (h := h) (most := most) (fun q => by have := q.1; have e := of_decide_eq_true H1.out; omega))
    go_enter Tryz.func15, Tryz.ntmps15
    go_upto_region 1 with (fail)
    generalize w.alloc (.cells #[.string h.name, .int .i64 h.height, .slice sa h.sets.length h.sc, .slice ra h.roofs.length h.rc] 25) = W0 at *
    obtain ⟨k0, k1, k2, k3⟩ := HAT.out
    rw [HSA.out] at k2
    rw [HRA.out] at k3
    go_wp2_with fail
    go_ret
    exact ⟨ret_bool HZ.out.symm, hW0⟩
  have H1 := Lib.hid h1
  cases h2 : decide (most + 10 < (h.roofs.length : Int))
  case true =>
    have H2 := Lib.hid h2
    have HZ := Lib.hid (smallH_no (h := h) (most := most) (fun q => by have := q.2.1; have e := of_decide_eq_true H2.out; omega))
    go_enter Tryz.func15, Tryz.ntmps15
    go_upto_region 1 with (fail)
    generalize w.alloc (.cells #[.string h.name, .int .i64 h.height, .slice sa h.sets.length h.sc, .slice ra h.roofs.length h.rc] 25) = W0 at *
    obtain ⟨k0, k1, k2, k3⟩ := HAT.out
    rw [HSA.out] at k2
    rw [HRA.out] at k3
    go_wp2_with fail
    go_ret
    exact ⟨ret_bool HZ.out.symm, hW0⟩
  have H2 := Lib.hid h2
  cases h3 : decide ((60 : Int) < (h.name.size : Int))
  case true =>
    have H3 := Lib.hid h3
    have HZ := Lib.hid (smallH_no (h := h) (most := most) (fun q => by have := q.2.2.1; have e := of_decide_eq_true H3.out; omega))
    go_enter Tryz.func15, Tryz.ntmps15
    go_upto_region 1 with (fail)
    generalize w.alloc (.cells #[.string h.name, .int .i64 h.height, .slice sa h.sets.length h.sc, .slice ra h.roofs.length h.rc] 25) = W0 at *
    obtain ⟨k0, k1, k2, k3⟩ := HAT.out
    rw [HSA.out] at k2
    rw [HRA.out] at k3
    go_wp2_with fail
    go_ret
    exact ⟨ret_bool HZ.out.symm, hW0⟩
  have H3 := Lib.hid h3
  have hsl : h.sets.length ≤ 900 := by have := of_decide_eq_false H1.out; omega
  have hrl : h.roofs.length ≤ 910 := by have := of_decide_eq_false H2.out; omega
  go_enter Tryz.func15, Tryz.ntmps15
  go_upto_region 1 with (fail)
  generalize w.alloc (.cells #[.string h.name, .int .i64 h.height, .slice sa h.sets.length h.sc, .slice ra h.roofs.length h.rc] 25) = W0 at *
  obtain ⟨k0, k1, k2, k3⟩ := HAT.out
  rw [HSA.out] at k2
  rw [HRA.out] at k3
  go_wp2_with fail
  have hz : w.heap.size < W0.heap.size := World.block_lt_of_cell? _ _ k0
  clear k0 k1 k2 k3 h1 h2 h3
  go_loopw [5] (fun i wr => ∃ k : Nat, k ≤ h.sets.length ∧ i = .int .i64 k ∧ Hid (∀ j, j < k → smallB (hsg h.sets j) 8 = true) ∧ Below W0.heap.size W0 wr) (fun i _ => h.sets.length - (intOf i).toNat)
  case atStart => exact ⟨0, Nat.zero_le _, rfl, Lib.hid (fun _ h => absurd h (Nat.not_lt_zero _)), Below.refl _ _⟩
  case round =>
    obtain ⟨k, hk, rfl, HO, hB⟩ := hrel
    have HAW := Lib.hid (HAT.out.carry hB)
    by_cases hlt : k < h.sets.length
    · have HHR := Lib.hid (HH.out.grow (hW0.trans (hB.mono hW0.size)))
      obtain ⟨b, off, esa, hb, hc⟩ := HHR.out.sets (by omega)
      obtain rfl : sa = some ⟨b, off, none⟩ := HSA.out.symm.trans esa
      have HSET := Lib.hid (HHR.out.each k hlt)
      obtain ⟨c0, c1, c2, c3, c4, c5, c6, c7, c8, c9, c10, c11, c12⟩ := hc k hlt
      obtain ⟨k0, k1, k2, k3⟩ := HAW.out
      rw [HSA.out] at k2
      rw [HRA.out] at k3
      have i0 : 0 ≤ (k : Int) := by omega
      have i1 : (k : Int) < (h.sets.length : Int) := by omega
      have s1 : IntKind.i64.wrap ((k : Int) + 1) = (k : Int) + 1 := IntWalk.i64_in _ (by omega)
      have HN : Hid (smallB (hsg h.sets k) 8 = false → smallHB h most = false) := Lib.hid fun e => smallH_no fun q => by have := q.2.2.2.1 k hlt; rw [e] at this; cases this
      have HO2 : Hid (smallB (hsg h.sets k) 8 = true → ∀ j, j < k + 1 → smallB (hsg h.sets j) 8 = true) := Lib.hid fun q j hj => by
        rcases Nat.lt_or_eq_of_le (Nat.le_of_lt_succ hj) with l | l
        · exact HO.out j l
        · subst l; exact q
      generalize hsg h.sets k = x at *
      have HBV := Lib.hid (small_any x 8 wr HSET.out)
      clear hc HO esa
      cases h6 : smallB x 8
      · have HZ := Lib.hid (HN.out h6)
        rw [h6] at HBV
        clear h6
        go_wp2_with (go_at_call 32; (with_reducible refine HBV.out.mono ?_); rintro e w3 ⟨rfl, hb3⟩)
        go_ret
        exact ⟨ret_bool HZ.out.symm, hW0.trans ((hB.trans (hb3.mono hB.size)).mono hW0.size)⟩
      · have HY := Lib.hid (HO2.out h6)
        rw [h6] at HBV
        clear h6
        go_wp2_with (go_at_call 32; (with_reducible refine HBV.out.mono ?_); rintro e w3 ⟨rfl, hb3⟩)
        go_roundw
        case rel => exact ⟨k + 1, by omega, by go_num, HY, hB.trans (hb3.mono hB.size)⟩
        case measure => simp [intOf]; omega
    · obtain rfl : k = h.sets.length := by omega
      have HS := Lib.hid HO.out
      have HBQ := Lib.hid hB
      obtain ⟨k0, k1, k2, k3⟩ := HAW.out
      rw [HSA.out] at k2
      rw [HRA.out] at k3
      clear HO hB
      go_wp2_with fail
      clear k0 k1 k2 k3
      go_loopw [6] (fun i wx => ∃ k : Nat, k ≤ h.roofs.length ∧ i = .int .i64 k ∧ Hid (∀ j, j < k → (rg h.roofs j).name.size ≤ 60) ∧ Below wr.heap.size wr wx) (fun i _ => h.roofs.length - (intOf i).toNat)
      case atStart => exact ⟨0, Nat.zero_le _, rfl, Lib.hid (fun _ h => absurd h (Nat.not_lt_zero _)), Below.refl _ _⟩
      case round =>
        obtain ⟨k, hk, rfl, HO, hB⟩ := hrel
        have HAX := Lib.hid (HAW.out.carry hB)
        obtain ⟨k0, k1, k2, k3⟩ := HAX.out
        rw [HSA.out] at k2
        rw [HRA.out] at k3
        by_cases hlt : k < h.roofs.length
        · have hBW := hW0.trans ((HBQ.out.trans (hB.mono HBQ.out.size)).mono hW0.size)
          have HHR := Lib.hid (HH.out.grow hBW)
          obtain ⟨b, off, era, hb, hc⟩ := HHR.out.roofs (by omega)
          obtain rfl : ra = some ⟨b, off, none⟩ := HRA.out.symm.trans era
          obtain ⟨c0, c1, c2, c3⟩ := hc k hlt
          have i0 : 0 ≤ (k : Int) := by omega
          have i1 : (k : Int) < (h.roofs.length : Int) := by omega
          have s1 : IntKind.i64.wrap ((k : Int) + 1) = (k : Int) + 1 := IntWalk.i64_in _ (by omega)
          clear hc era
          by_cases h6 : (60 : Int) < ((rg h.roofs k).name.size : Int)
          · have g6 := decide_eq_true h6
            have HZ := Lib.hid (smallH_no (h := h) (most := most) fun q => by have := q.2.2.2.2 k hlt; omega)
            clear h6
            go_wp2_with fail
            go_ret
            exact ⟨ret_bool HZ.out.symm, hBW⟩
          · have g6 := decide_eq_false h6
            have HY : Hid (∀ j, j < k + 1 → (rg h.roofs j).name.size ≤ 60) := Lib.hid fun j hj => by
              rcases Nat.lt_or_eq_of_le (Nat.le_of_lt_succ hj) with l | l
              · exact HO.out j l
              · subst l; omega
            clear h6
            go_wp2_with fail
            go_roundw
            case rel => exact ⟨k + 1, by omega, by go_num, HY, hB⟩
            case measure => simp [intOf]; omega
        · obtain rfl : k = h.roofs.length := by omega
          have HR : Hid (smallHB h most = true) := Lib.hid (smallH_iff.2 ⟨by have := of_decide_eq_false H1.out; omega, by have := of_decide_eq_false H2.out; omega, by have := of_decide_eq_false H3.out; omega, HS.out, HO.out⟩)
          have hBW := hW0.trans ((HBQ.out.trans (hB.mono HBQ.out.size)).mono hW0.size)
          go_wp2_with fail
          go_ret
          exact ⟨ret_bool HR.out.symm, hBW⟩
end Go.Proofs.YthldfijlcoobgaaGreat
namespace Go.Proofs.YthldfijlcoobgaaGreat
open Go.RowKit Go.Shelf
attribute [local go_sem] Oper.semAt_some
def movLong (x : MovR) : Bool := decide (100 < x.set.size)
def cueLong (q : CueR) : Bool := decide (105 < q.moves.length) || mov_any q.moves movLong
noncomputable def bigB (h : HouseR) (s : SheetR) : Bool := !smallHB h 6 || (decide (65 < s.cues.length) || cue_any s.cues cueLong)
theorem ent_big11 (args : Array Value) (w : World) : (callFunc 19 args).run Tryz.prog w = .ok (.enter 19 args) w := enters_of Tryz.func19 (by kernel_rfl) rfl args w
theorem ent_big1 (args : Array Value) (w : World) : (callFunc 17 args).run Tryz.prog w = .ok (.enter 17 args) w := enters_of Tryz.func17 (by kernel_rfl) rfl args w
theorem movlong_any (x : MovR) (w : World) : Calls Tryz.prog 19 #[.agg #[.string x.set, .int .i64 x.dest, .int .i64 x.speed, .int .i64 x.rise, .int .i64 x.fall]] w fun e w' => e = .returned (.bool (movLong x)) ∧ Below w.heap.size w w' := by
  unfold movLong
  obtain ⟨b, hb⟩ : ∃ b, decide (100 < x.set.size) = b := ⟨_, rfl⟩
  rw [hb]
  have hb2 : decide ((100 : Int) < (x.set.size : Int)) = b := by rw [← hb]; exact decide_eq_decide.2 (by omega)
  go_enter Tryz.func19, Tryz.ntmps19
  go_wp2_with fail
  go_ret
  exact ⟨ret_bool rfl, below_new _ _⟩
theorem asks_movlong (n₀ : Nat) (w : World) : AsksMov 19 #[] n₀ w movLong := fun W r _ => movlong_any r W
set_option maxHeartbeats 4000000 in
theorem cuelong_any (q : CueR) (w : World) (hq : Movs w.heap.size w q.ma q.moves) : Calls Tryz.prog 17 #[.agg #[.string q.name, .string q.after, .int .i64 q.link, .int .i64 q.delay, .slice q.ma q.moves.length q.mc, .int .i64 q.crew, .int .i64 q.power]] w fun e w' => e = .returned (.bool (cueLong q)) ∧ Below w.heap.size w w' := by
  have hb0 := below_new w (.cells #[.string q.name, .string q.after, .int .i64 q.link, .int .i64 q.delay, .slice q.ma q.moves.length q.mc, .int .i64 q.crew, .int .i64 q.power] 60)
  have HQ := Lib.hid (hq.grow hb0)
  have HB0 := Lib.hid hb0
  clear hq hb0
  by_cases h : 105 < q.moves.length
  · have HZ : Hid (cueLong q = true) := Lib.hid (by unfold cueLong; rw [decide_eq_true h]; rfl)
    have g : decide ((105 : Int) < (q.moves.length : Int)) = true := decide_eq_true (by omega)
    clear h
    go_enter Tryz.func17, Tryz.ntmps17
    go_wp2_with fail
    go_ret
    exact ⟨ret_bool HZ.out.symm, HB0.out⟩
  · have HZ : Hid (cueLong q = mov_any q.moves movLong) := Lib.hid (by unfold cueLong; rw [decide_eq_false h]; rfl)
    have g : decide ((105 : Int) < (q.moves.length : Int)) = false := decide_eq_false (by omega)
    go_enter Tryz.func17, Tryz.ntmps17
    go_wp2_with (go_at_call 18; (with_reducible refine (mov_containsFunc _ q.moves _ _ _ _ movLong _ ent_big11 (by omega) (Nat.le_refl _) HQ.out (asks_movlong _ _)).mono ?_); rintro e w1 ⟨rfl, hb1⟩)
    go_ret
    exact ⟨ret_bool HZ.out.symm, HB0.out.trans (hb1.mono HB0.out.size)⟩
set_option maxRecDepth 100000 in
set_option maxHeartbeats 8000000 in
theorem big_any (h : HouseR) (s : SheetR) (w : World) (hh : HouseIn0 w h) (hs : SheetIn0 w s) :
    Calls Tryz.prog 5 #[.agg #[.string h.name, .int .i64 h.height, .slice h.sa h.sets.length h.sc, .slice h.ra h.roofs.length h.rc], .agg #[.slice s.ca s.cues.length s.cc, .slice s.pa s.pairs.length s.pc]] w fun e w' => e = .returned (.bool (bigB h s)) ∧ Below w.heap.size w w' := by
  have hb0 : Below w.heap.size w ((w.alloc (.cells #[.string h.name, .int .i64 h.height, .slice h.sa h.sets.length h.sc, .slice h.ra h.roofs.length h.rc] 25)).alloc (.cells #[.slice s.ca s.cues.length s.cc, .slice s.pa s.pairs.length s.pc] 29)) := (below_new w _).alloc (by simp) _
  have hat : HouseAt ((w.alloc (.cells #[.string h.name, .int .i64 h.height, .slice h.sa h.sets.length h.sc, .slice h.ra h.roofs.length h.rc] 25)).alloc (.cells #[.slice s.ca s.cues.length s.cc, .slice s.pa s.pairs.length s.pc] 29)) w.heap.size h := (HouseAt.new w h _).carry (below_new _ _)
  have sat : SheetAt ((w.alloc (.cells #[.string h.name, .int .i64 h.height, .slice h.sa h.sets.length h.sc, .slice h.ra h.roofs.length h.rc] 25)).alloc (.cells #[.slice s.ca s.cues.length s.cc, .slice s.pa s.pairs.length s.pc] 29)) (w.heap.size + 1) s := by unfold SheetAt; simp
  have HH := Lib.hid (hh.grow hb0)
  have HS := Lib.hid (hs.grow hb0)
  have hcap := hh.scap
  have hrcap := hh.rcap
  clear hh hs
  have HSM := Lib.hid fun w' => fun x => smallH_any h 6 (by omega) (by omega) w' x
  cases h6 : smallHB h 6
  · have HZ : Hid (bigB h s = true) := Lib.hid (by unfold bigB; rw [h6]; rfl)
    have H6 := Lib.hid h6
    clear h6
    go_enter Tryz.func5, Tryz.ntmps5
    go_upto_region 1 with (fail)
    obtain ⟨W0, hW0⟩ : ∃ W0 : World, (w.alloc (.cells #[.string h.name, .int .i64 h.height, .slice h.sa h.sets.length h.sc, .slice h.ra h.roofs.length h.rc] 25)).alloc (.cells #[.slice s.ca s.cues.length s.cc, .slice s.pa s.pairs.length s.pc] 29) = W0 := ⟨_, rfl⟩
    simp only [hW0] at hb0 hat sat HH HS ⊢
    clear hW0
    obtain ⟨a0, a1, a2, a3⟩ := hat
    obtain ⟨s0, s1⟩ := sat
    go_wp2_with (go_at_call 15; (with_reducible refine (HSM.out _ HH.out).mono ?_); rintro e w1 ⟨rfl, hb1⟩; rw [H6.out])
    go_ret
    exact ⟨ret_bool HZ.out.symm, hb0.trans (hb1.mono hb0.size)⟩
  have H6 := Lib.hid h6
  by_cases hl : 65 < s.cues.length
  · have HZ : Hid (bigB h s = true) := Lib.hid (by unfold bigB; rw [h6, decide_eq_true hl]; rfl)
    have g : decide ((65 : Int) < (s.cues.length : Int)) = true := decide_eq_true (by omega)
    clear h6 hl
    go_enter Tryz.func5, Tryz.ntmps5
    go_upto_region 1 with (fail)
    obtain ⟨W0, hW0⟩ : ∃ W0 : World, (w.alloc (.cells #[.string h.name, .int .i64 h.height, .slice h.sa h.sets.length h.sc, .slice h.ra h.roofs.length h.rc] 25)).alloc (.cells #[.slice s.ca s.cues.length s.cc, .slice s.pa s.pairs.length s.pc] 29) = W0 := ⟨_, rfl⟩
    simp only [hW0] at hb0 hat sat HH HS ⊢
    clear hW0
    obtain ⟨a0, a1, a2, a3⟩ := hat
    have HSA := Lib.hid sat
    clear sat
    go_wp2_with (go_at_call 15; (with_reducible refine (HSM.out _ HH.out).mono ?_); rintro e w1 ⟨rfl, hb1⟩; rw [H6.out]; obtain ⟨s0, s1⟩ := HSA.out.carry hb1)
    go_ret
    exact ⟨ret_bool HZ.out.symm, hb0.trans (hb1.mono hb0.size)⟩
  · have HZ : Hid (bigB h s = cue_any s.cues cueLong) := Lib.hid (by unfold bigB; rw [h6, decide_eq_false hl]; rfl)
    have g : decide ((65 : Int) < (s.cues.length : Int)) = false := decide_eq_false (by omega)
    clear h6
    go_enter Tryz.func5, Tryz.ntmps5
    go_upto_region 1 with (fail)
    obtain ⟨W0, hW0⟩ : ∃ W0 : World, (w.alloc (.cells #[.string h.name, .int .i64 h.height, .slice h.sa h.sets.length h.sc, .slice h.ra h.roofs.length h.rc] 25)).alloc (.cells #[.slice s.ca s.cues.length s.cc, .slice s.pa s.pairs.length s.pc] 29) = W0 := ⟨_, rfl⟩
    simp only [hW0] at hb0 hat sat HH HS ⊢
    clear hW0
    obtain ⟨a0, a1, a2, a3⟩ := hat
    have HSA := Lib.hid sat
    clear sat
    go_wp2_with (first
      | (go_at_call 15; (with_reducible refine (HSM.out _ HH.out).mono ?_); rintro e w1 ⟨rfl, hb1⟩; rw [H6.out]; obtain ⟨s0, s1⟩ := HSA.out.carry hb1)
      | (go_at_call 16; (with_reducible refine (cue_containsFuncM _ s.cues _ _ _ _ cueLong _ ent_big1 (by omega) (Nat.le_refl _) (HS.out.grow hb1).lies ?_).mono ?_); (next => exact fun W i hi hB => cuelong_any (cg s.cues i) W (((HS.out.grow hb1).each i hi).grow hB)); rintro e w2 ⟨rfl, hb2⟩))
    go_ret
    exact ⟨ret_bool HZ.out.symm, hb0.trans ((hb1.trans (hb2.mono hb1.size)).mono hb0.size)⟩
end Go.Proofs.YthldfijlcoobgaaGreat
namespace Go.Proofs.YthldfijlcoobgaaGreat
open Go.RowKit Go.Shelf
attribute [local go_sem] Oper.semAt_some

/-- Two that read the same. -/
theorem eq_same (a1 a2 : Option Addr) (F : List Int) (n c1 c2 : Nat) (w : World) (hn : F.length = n) (hl : n ≤ 1000) (h1 : Nums w.heap.size w a1 F) (h2 : Nums w.heap.size w a2 F) :
    Calls Tryz.prog 8 #[.slice a1 n c1, .slice a2 n c2] w fun e w' => e = .returned (.bool true) ∧ Below w.heap.size w w' := by
  subst hn
  refine (num_equal a1 a2 F F c1 c2 w (by omega) h1 h2 (by omega)).mono fun e w' h => ⟨?_, h.2⟩
  rw [h.1, decide_eq_true rfl]
end Go.Proofs.YthldfijlcoobgaaGreat
